/- A part of a proof about the given program: an abstract machine, what the given functions come to, and plain laws. -/
import Derived.Test.YtoginabccpjeoaaMachG
import Derived.Test.YtoginabccpjeoaaDallLawComponents1
import Derived.Test.YtoginabccpjeoaaProg
set_option linter.unusedVariables false
set_option linter.unusedSimpArgs false
set_option maxRecDepth 100000
set_option maxHeartbeats 4000000
namespace Go.AM
open Go.Proofs
def E0 (α : Type) (N : Nat) : Env α := Env.base (fun _ _ => {}) N
theorem E0_ok {α : Type} (N : Nat) : EnvOk Try.prog (E0 α N) := .base
theorem q03v : Try.prog.follows .mixedOrders = true := by kernel_rfl
theorem q03w : NamesOk Try.prog := .of_all (by kernel_rfl)
def q03x : SPat := ⟨[.sliceV 0 0 0 1 false], [[.intsV .u8]]⟩
def q03y : SPat := ⟨[.bool], [[.intsV .u8]]⟩
theorem q03z {α : Type} (N code_n code_l code_c h0_n : Nat) (h0 : NI) (K : AV -> Heap -> Option α) :
    callK Try.prog (E0 α N) 1 16 1 (buildS q03x [.n code_n, .n code_l, .n code_c, .n h0_n, .f h0]).t (buildS q03x [.n code_n, .n code_l, .n code_c, .n h0_n, .f h0]).h K = w_big none N code_n code_l code_c h0_n h0 (fun r__ => retK (buildS q03y [.b r__, .n h0_n, .f h0]) K) := by kernel_rfl
def q040 (α : Type) (N : Nat) : Env α := (E0 α N).addFun 16 true 1 q03x (fun l K => match l with
    | [.n code_n, .n code_l, .n code_c, .n h0_n, .f h0] => w_big none N code_n code_l code_c h0_n h0 (fun r__ => retK (buildS q03y [.b r__, .n h0_n, .f h0]) K)
    | _ => none)
theorem q041 {α : Type} (N : Nat) : EnvOk Try.prog (q040 α N) := (E0_ok N).addFun q03v q03w (d := 1) fun l K r h => by
  split at h
  · exact (q03z N _ _ _ _ _ K).trans h
  · cases h
def q042 (α : Type) (N : Nat) : Env α := (q040 α N).addAnn 104 3 { head := [0, 3, 4], grow := [], out := [3], ret := [2] }
theorem q043 {α : Type} (N : Nat) : EnvOk Try.prog (q042 α N) := (q041 N).addAnn
def q044 : SPat := ⟨[.sliceV 0 0 0 1 false, .undef, .undef, .ptr ⟨⟨1, 0⟩, 0, 0, 3⟩, .int .i64] ++ List.replicate 33 .undef, [[.intsV .u8], [.vals [.sliceV 0 0 0 1 false, .int .i64, .int .u64]]]⟩
def q045 : SPat := ⟨[.undef, .undef, .undef, .ptr ⟨⟨1, 0⟩, 0, 0, 3⟩] ++ List.replicate 34 .undef, [[.intsV .u8], [.vals [.sliceV 0 0 0 1 false, .int .i64, .int .u64]]]⟩
theorem q046 {α : Type} (N code_n code_l code_c : Nat) (i : Int) (h0_n : Nat) (h0 : NI) (h1_0_n h1_0_l h1_0_c : Nat) (h1_1 h1_2 : Int) (kn : St -> Option α) (K : AExit -> St -> Option α) :
    roundK Try.prog (q042 α N) 1 1 104 Try.f104 3 2 (buildS q044 [.n code_n, .n code_l, .n code_c, .i i, .n h0_n, .f h0, .n h1_0_n, .n h1_0_l, .n h1_0_c, .i h1_1, .i h1_2]) kn K = q010 none code_n code_l code_c h0_n h0 h1_0_n h1_0_l h1_0_c h1_1 i h1_2 (fun i h1_2 => kn (buildS q044 [.n code_n, .n code_l, .n code_c, .i i, .n h0_n, .f h0, .n h1_0_n, .n h1_0_l, .n h1_0_c, .i h1_1, .i h1_2])) (fun h1_2_ => K (.exit 0) (buildS q045 [.n h0_n, .f h0, .n h1_0_n, .n h1_0_l, .n h1_0_c, .i h1_1, .i h1_2_])) := by kernel_rfl
theorem q047 {α : Type} (N code_n code_l code_c h0_n : Nat) (h0 : NI) (h1_0_n h1_0_l h1_0_c : Nat) (h1_1 : Int) (K : AExit -> St -> Option α) : ∀ (m : Nat) (i h1_2 : Int),
    loopN (trimSt ((q042 α N).ann 104 3).head ((q042 α N).ann 104 3).grow 2) (bodyK Try.prog (q042 α N) 1 1 104 Try.f104 3) m (buildS q044 [.n code_n, .n code_l, .n code_c, .i i, .n h0_n, .f h0, .n h1_0_n, .n h1_0_l, .n h1_0_c, .i h1_1, .i h1_2]) (leaveLoop ((q042 α N).ann 104 3) 2 K) = q011 none code_n code_l code_c h0_n h0 h1_0_n h1_0_l h1_0_c h1_1 m i h1_2 (fun h1_2_ => K (.exit 0) (buildS q045 [.n h0_n, .f h0, .n h1_0_n, .n h1_0_l, .n h1_0_c, .i h1_1, .i h1_2_])) := by
  intro m
  induction m with
  | zero => intros; rfl
  | succ m ih =>
    intro i h1_2
    rw [loopN_round]
    refine (q046 N code_n code_l code_c i h0_n h0 h1_0_n h1_0_l h1_0_c h1_1 h1_2 _ K).trans ?_
    simp only [ih]
    rfl
def q048 (α : Type) (N : Nat) : Env α := (q042 α N).addLoop2 104 3 (loopSum2 ((q042 α N).ann 104 3) 1 q044 (fun l K => match l with
    | [.n code_n, .n code_l, .n code_c, .i i, .n h0_n, .f h0, .n h1_0_n, .n h1_0_l, .n h1_0_c, .i h1_1, .i h1_2] => q011 none code_n code_l code_c h0_n h0 h1_0_n h1_0_l h1_0_c h1_1 N i h1_2 (fun h1_2_ => K (.exit 0) (buildS q045 [.n h0_n, .f h0, .n h1_0_n, .n h1_0_l, .n h1_0_c, .i h1_1, .i h1_2_]))
    | _ => none) ((q042 α N).ls 104 3))
theorem q049 {α : Type} (N : Nat) : EnvOk Try.prog (q048 α N) := (q043 N).addLoop2 Try.func104 (by kernel_rfl) (loopSum_ok q03v q03w (q043 N) Try.func104 (by kernel_rfl) (d := 1) (ro := 1) fun l K r h => by
  split at h
  · exact (q047 N _ _ _ _ _ _ _ _ _ K N _ _).trans h
  · cases h)
def q04a : SPat := ⟨[.sliceV 0 0 0 1 false], [[.intsV .u8]]⟩
def q04b : SPat := ⟨[.ptr ⟨⟨1, 0⟩, 0, 0, 3⟩], [[.intsV .u8], [.vals [.sliceV 0 0 0 1 false, .int .i64, .int .u64]]]⟩
theorem q04c {α : Type} (N code_n code_l code_c h0_n : Nat) (h0 : NI) (K : AV -> Heap -> Option α) :
    callK Try.prog (q048 α N) 1 104 1 (buildS q04a [.n code_n, .n code_l, .n code_c, .n h0_n, .f h0]).t (buildS q04a [.n code_n, .n code_l, .n code_c, .n h0_n, .f h0]).h K = q012 none N code_n code_l code_c h0_n h0 (fun h1_1_ h1_2_ => retK (buildS q04b [.n h0_n, .f h0, .n code_n, .n code_l, .n code_c, .i h1_1_, .i h1_2_]) K) := by kernel_rfl
def q04d (α : Type) (N : Nat) : Env α := (q048 α N).addFun 104 true 1 q04a (fun l K => match l with
    | [.n code_n, .n code_l, .n code_c, .n h0_n, .f h0] => q012 none N code_n code_l code_c h0_n h0 (fun h1_1_ h1_2_ => retK (buildS q04b [.n h0_n, .f h0, .n code_n, .n code_l, .n code_c, .i h1_1_, .i h1_2_]) K)
    | _ => none)
theorem q04e {α : Type} (N : Nat) : EnvOk Try.prog (q04d α N) := (q049 N).addFun q03v q03w (d := 1) fun l K r h => by
  split at h
  · exact (q04c N _ _ _ _ _ K).trans h
  · cases h
def q04f : SPat := ⟨[.ptr ⟨⟨1, 0⟩, 0, 0, 3⟩, .int .i64], [[.intsV .u8], [.vals [.sliceV 0 0 0 1 false, .int .i64, .int .u64]]]⟩
def q04g : SPat := ⟨[.int .i64], [[.intsV .u8], [.vals [.sliceV 0 0 0 1 false, .int .i64, .int .u64]]]⟩
theorem q04h {α : Type} (N : Nat) (n : Int) (h0_n : Nat) (h0 : NI) (h1_0_n h1_0_l h1_0_c : Nat) (h1_1 h1_2 : Int) (K : AV -> Heap -> Option α) :
    callK Try.prog (q04d α N) 1 114 1 (buildS q04f [.i n, .n h0_n, .f h0, .n h1_0_n, .n h1_0_l, .n h1_0_c, .i h1_1, .i h1_2]).t (buildS q04f [.i n, .n h0_n, .f h0, .n h1_0_n, .n h1_0_l, .n h1_0_c, .i h1_1, .i h1_2]).h K = q013 none N n h0_n h0 h1_0_n h1_0_l h1_0_c h1_1 h1_2 (fun r__ h1_1_ h1_2_ => retK (buildS q04g [.i r__, .n h0_n, .f h0, .n h1_0_n, .n h1_0_l, .n h1_0_c, .i h1_1_, .i h1_2_]) K) := by kernel_rfl
def q04i (α : Type) (N : Nat) : Env α := (q04d α N).addFun 114 false 1 q04f (fun l K => match l with
    | [.i n, .n h0_n, .f h0, .n h1_0_n, .n h1_0_l, .n h1_0_c, .i h1_1, .i h1_2] => q013 none N n h0_n h0 h1_0_n h1_0_l h1_0_c h1_1 h1_2 (fun r__ h1_1_ h1_2_ => retK (buildS q04g [.i r__, .n h0_n, .f h0, .n h1_0_n, .n h1_0_l, .n h1_0_c, .i h1_1_, .i h1_2_]) K)
    | _ => none)
theorem q04j {α : Type} (N : Nat) : EnvOk Try.prog (q04i α N) := (q04e N).addFun q03v q03w (d := 1) fun l K r h => by
  split at h
  · exact (q04h N _ _ _ _ _ _ _ _ K).trans h
  · cases h
def q04k : SPat := ⟨[.ptr ⟨⟨1, 0⟩, 0, 0, 3⟩, .slice ⟨⟨2, 0⟩, 0, 0, 3⟩ 3 3 1 true], [[.intsV .u8], [.vals [.sliceV 0 0 0 1 false, .int .i64, .int .u64]], [.vec .i64]]⟩
def q04l : SPat := ⟨[.int .i64], [[.intsV .u8], [.vals [.sliceV 0 0 0 1 false, .int .i64, .int .u64]], [.vec .i64]]⟩
theorem q04m {α : Type} (N h0_n : Nat) (h0 : NI) (h1_0_n h1_0_l h1_0_c : Nat) (h1_1 h1_2 : Int) (h2 : List Int) (K : AV -> Heap -> Option α) :
    callK Try.prog (q04i α N) 1 115 1 (buildS q04k [.n h0_n, .f h0, .n h1_0_n, .n h1_0_l, .n h1_0_c, .i h1_1, .i h1_2, .l h2]).t (buildS q04k [.n h0_n, .f h0, .n h1_0_n, .n h1_0_l, .n h1_0_c, .i h1_1, .i h1_2, .l h2]).h K = q014 none N h0_n h0 h1_0_n h1_0_l h1_0_c h1_1 h1_2 h2 (fun r__ h1_1_ h1_2_ => retK (buildS q04l [.i r__, .n h0_n, .f h0, .n h1_0_n, .n h1_0_l, .n h1_0_c, .i h1_1_, .i h1_2_, .l h2]) K) := by kernel_rfl
def q04n (α : Type) (N : Nat) : Env α := (q04i α N).addFun 115 false 1 q04k (fun l K => match l with
    | [.n h0_n, .f h0, .n h1_0_n, .n h1_0_l, .n h1_0_c, .i h1_1, .i h1_2, .l h2] => q014 none N h0_n h0 h1_0_n h1_0_l h1_0_c h1_1 h1_2 h2 (fun r__ h1_1_ h1_2_ => retK (buildS q04l [.i r__, .n h0_n, .f h0, .n h1_0_n, .n h1_0_l, .n h1_0_c, .i h1_1_, .i h1_2_, .l h2]) K)
    | _ => none)
theorem q04o {α : Type} (N : Nat) : EnvOk Try.prog (q04n α N) := (q04j N).addFun q03v q03w (d := 1) fun l K r h => by
  split at h
  · exact (q04m N _ _ _ _ _ _ _ _ K).trans h
  · cases h
def q04p (α : Type) (N : Nat) : Env α := (q04n α N).addAnn 197 3 { head := [0, 1, 4, 5, 6], grow := [], out := [0, 1, 4, 5], ret := [4] }
theorem q04q {α : Type} (N : Nat) : EnvOk Try.prog (q04p α N) := (q04o N).addAnn
def q04r : SPat := ⟨[.ptr ⟨⟨1, 0⟩, 0, 0, 3⟩, .int .i64, .undef, .undef, .ptr ⟨⟨2, 0⟩, 0, 0, 8⟩, .ptr ⟨⟨3, 0⟩, 0, 0, 8⟩, .int .i64] ++ List.replicate 35 .undef, [[.intsV .u8], [.vals [.sliceV 0 0 0 1 false, .int .i64, .int .u64]], [.ints .u8 8], [.ints .u8 8]]⟩
def q04s : SPat := ⟨[.ptr ⟨⟨1, 0⟩, 0, 0, 3⟩, .int .i64, .undef, .undef, .ptr ⟨⟨2, 0⟩, 0, 0, 8⟩, .ptr ⟨⟨3, 0⟩, 0, 0, 8⟩] ++ List.replicate 36 .undef, [[.intsV .u8], [.vals [.sliceV 0 0 0 1 false, .int .i64, .int .u64]], [.ints .u8 8], [.ints .u8 8]]⟩
theorem q04t {α : Type} (N : Nat) (n i : Int) (h0_n : Nat) (h0 : NI) (h1_0_n h1_0_l h1_0_c : Nat) (h1_1 h1_2 : Int) (h2 h3 : NI) (kn : St -> Option α) (K : AExit -> St -> Option α) :
    roundK Try.prog (q04p α N) 1 1 197 Try.f197 3 4 (buildS q04r [.i n, .i i, .n h0_n, .f h0, .n h1_0_n, .n h1_0_l, .n h1_0_c, .i h1_1, .i h1_2, .f h2, .f h3]) kn K = q015 none n h0_n h0 h1_0_n h1_0_l h1_0_c h1_1 h1_2 h2 i h3 (fun i h3 => kn (buildS q04r [.i n, .i i, .n h0_n, .f h0, .n h1_0_n, .n h1_0_l, .n h1_0_c, .i h1_1, .i h1_2, .f h2, .f h3])) (fun h3_ => K (.exit 0) (buildS q04s [.i n, .n h0_n, .f h0, .n h1_0_n, .n h1_0_l, .n h1_0_c, .i h1_1, .i h1_2, .f h2, .f h3_])) := by kernel_rfl
theorem q04u {α : Type} (N : Nat) (n : Int) (h0_n : Nat) (h0 : NI) (h1_0_n h1_0_l h1_0_c : Nat) (h1_1 h1_2 : Int) (h2 : NI) (K : AExit -> St -> Option α) : ∀ (m : Nat) (i : Int) (h3 : NI),
    loopN (trimSt ((q04p α N).ann 197 3).head ((q04p α N).ann 197 3).grow 4) (bodyK Try.prog (q04p α N) 1 1 197 Try.f197 3) m (buildS q04r [.i n, .i i, .n h0_n, .f h0, .n h1_0_n, .n h1_0_l, .n h1_0_c, .i h1_1, .i h1_2, .f h2, .f h3]) (leaveLoop ((q04p α N).ann 197 3) 4 K) = q016 none n h0_n h0 h1_0_n h1_0_l h1_0_c h1_1 h1_2 h2 m i h3 (fun h3_ => K (.exit 0) (buildS q04s [.i n, .n h0_n, .f h0, .n h1_0_n, .n h1_0_l, .n h1_0_c, .i h1_1, .i h1_2, .f h2, .f h3_])) := by
  intro m
  induction m with
  | zero => intros; rfl
  | succ m ih =>
    intro i h3
    rw [loopN_round]
    refine (q04t N n i h0_n h0 h1_0_n h1_0_l h1_0_c h1_1 h1_2 h2 h3 _ K).trans ?_
    simp only [ih]
    rfl
def q04v (α : Type) (N : Nat) : Env α := (q04p α N).addLoop2 197 3 (loopSum2 ((q04p α N).ann 197 3) 1 q04r (fun l K => match l with
    | [.i n, .i i, .n h0_n, .f h0, .n h1_0_n, .n h1_0_l, .n h1_0_c, .i h1_1, .i h1_2, .f h2, .f h3] => q016 none n h0_n h0 h1_0_n h1_0_l h1_0_c h1_1 h1_2 h2 N i h3 (fun h3_ => K (.exit 0) (buildS q04s [.i n, .n h0_n, .f h0, .n h1_0_n, .n h1_0_l, .n h1_0_c, .i h1_1, .i h1_2, .f h2, .f h3_]))
    | _ => none) ((q04p α N).ls 197 3))
theorem q04w {α : Type} (N : Nat) : EnvOk Try.prog (q04v α N) := (q04q N).addLoop2 Try.func197 (by kernel_rfl) (loopSum_ok q03v q03w (q04q N) Try.func197 (by kernel_rfl) (d := 1) (ro := 1) fun l K r h => by
  split at h
  · exact (q04u N _ _ _ _ _ _ _ _ _ K N _ _).trans h
  · cases h)
def q04x (α : Type) (N : Nat) : Env α := (q04v α N).addAnn 197 7 { head := [0, 4, 5, 7], grow := [], out := [4, 5], ret := [4] }
theorem q04y {α : Type} (N : Nat) : EnvOk Try.prog (q04x α N) := (q04w N).addAnn
def q04z : SPat := ⟨[.ptr ⟨⟨1, 0⟩, 0, 0, 3⟩, .undef, .undef, .undef, .ptr ⟨⟨2, 0⟩, 0, 0, 8⟩, .ptr ⟨⟨3, 0⟩, 0, 0, 8⟩, .undef, .int .i64] ++ List.replicate 34 .undef, [[.intsV .u8], [.vals [.sliceV 0 0 0 1 false, .int .i64, .int .u64]], [.ints .u8 8], [.ints .u8 8]]⟩
def q050 : SPat := ⟨[.undef, .undef, .undef, .undef, .ptr ⟨⟨2, 0⟩, 0, 0, 8⟩, .ptr ⟨⟨3, 0⟩, 0, 0, 8⟩] ++ List.replicate 36 .undef, [[.intsV .u8], [.vals [.sliceV 0 0 0 1 false, .int .i64, .int .u64]], [.ints .u8 8], [.ints .u8 8]]⟩
theorem q051 {α : Type} (N : Nat) (i : Int) (h0_n : Nat) (h0 : NI) (h1_0_n h1_0_l h1_0_c : Nat) (h1_1 h1_2 : Int) (h2 h3 : NI) (kn : St -> Option α) (K : AExit -> St -> Option α) :
    roundK Try.prog (q04x α N) 1 1 197 Try.f197 7 4 (buildS q04z [.i i, .n h0_n, .f h0, .n h1_0_n, .n h1_0_l, .n h1_0_c, .i h1_1, .i h1_2, .f h2, .f h3]) kn K = q017 none N h0_n h0 h1_0_n h1_0_l h1_0_c h2 i h1_1 h1_2 h3 (fun i h1_1 h1_2 h3 => kn (buildS q04z [.i i, .n h0_n, .f h0, .n h1_0_n, .n h1_0_l, .n h1_0_c, .i h1_1, .i h1_2, .f h2, .f h3])) (fun h1_1_ h1_2_ h3_ => K (.exit 2) (buildS q050 [.n h0_n, .f h0, .n h1_0_n, .n h1_0_l, .n h1_0_c, .i h1_1_, .i h1_2_, .f h2, .f h3_])) := by kernel_rfl
theorem q052 {α : Type} (N h0_n : Nat) (h0 : NI) (h1_0_n h1_0_l h1_0_c : Nat) (h2 : NI) (K : AExit -> St -> Option α) : ∀ (m : Nat) (i h1_1 h1_2 : Int) (h3 : NI),
    loopN (trimSt ((q04x α N).ann 197 7).head ((q04x α N).ann 197 7).grow 4) (bodyK Try.prog (q04x α N) 1 1 197 Try.f197 7) m (buildS q04z [.i i, .n h0_n, .f h0, .n h1_0_n, .n h1_0_l, .n h1_0_c, .i h1_1, .i h1_2, .f h2, .f h3]) (leaveLoop ((q04x α N).ann 197 7) 4 K) = q018 none N h0_n h0 h1_0_n h1_0_l h1_0_c h2 m i h1_1 h1_2 h3 (fun h1_1_ h1_2_ h3_ => K (.exit 2) (buildS q050 [.n h0_n, .f h0, .n h1_0_n, .n h1_0_l, .n h1_0_c, .i h1_1_, .i h1_2_, .f h2, .f h3_])) := by
  intro m
  induction m with
  | zero => intros; rfl
  | succ m ih =>
    intro i h1_1 h1_2 h3
    rw [loopN_round]
    refine (q051 N i h0_n h0 h1_0_n h1_0_l h1_0_c h1_1 h1_2 h2 h3 _ K).trans ?_
    simp only [ih]
    rfl
def q053 (α : Type) (N : Nat) : Env α := (q04x α N).addLoop2 197 7 (loopSum2 ((q04x α N).ann 197 7) 1 q04z (fun l K => match l with
    | [.i i, .n h0_n, .f h0, .n h1_0_n, .n h1_0_l, .n h1_0_c, .i h1_1, .i h1_2, .f h2, .f h3] => q018 none N h0_n h0 h1_0_n h1_0_l h1_0_c h2 N i h1_1 h1_2 h3 (fun h1_1_ h1_2_ h3_ => K (.exit 2) (buildS q050 [.n h0_n, .f h0, .n h1_0_n, .n h1_0_l, .n h1_0_c, .i h1_1_, .i h1_2_, .f h2, .f h3_]))
    | _ => none) ((q04x α N).ls 197 7))
theorem q054 {α : Type} (N : Nat) : EnvOk Try.prog (q053 α N) := (q04y N).addLoop2 Try.func197 (by kernel_rfl) (loopSum_ok q03v q03w (q04y N) Try.func197 (by kernel_rfl) (d := 1) (ro := 1) fun l K r h => by
  split at h
  · exact (q052 N _ _ _ _ _ _ K N _ _ _ _).trans h
  · cases h)
def q055 : SPat := ⟨[.ptr ⟨⟨1, 0⟩, 0, 0, 3⟩, .int .i64], [[.intsV .u8], [.vals [.sliceV 0 0 0 1 false, .int .i64, .int .u64]]]⟩
def q056 : SPat := ⟨[.agg [.ints .u8 8]], [[.intsV .u8], [.vals [.sliceV 0 0 0 1 false, .int .i64, .int .u64]]]⟩
theorem q057 {α : Type} (N : Nat) (n : Int) (h0_n : Nat) (h0 : NI) (h1_0_n h1_0_l h1_0_c : Nat) (h1_1 h1_2 : Int) (K : AV -> Heap -> Option α) :
    callK Try.prog (q053 α N) 1 197 1 (buildS q055 [.i n, .n h0_n, .f h0, .n h1_0_n, .n h1_0_l, .n h1_0_c, .i h1_1, .i h1_2]).t (buildS q055 [.i n, .n h0_n, .f h0, .n h1_0_n, .n h1_0_l, .n h1_0_c, .i h1_1, .i h1_2]).h K = q019 none N n h0_n h0 h1_0_n h1_0_l h1_0_c h1_1 h1_2 (fun r__ h1_1_ h1_2_ => retK (buildS q056 [.f r__, .n h0_n, .f h0, .n h1_0_n, .n h1_0_l, .n h1_0_c, .i h1_1_, .i h1_2_]) K) := by kernel_rfl
def q058 (α : Type) (N : Nat) : Env α := (q053 α N).addFun 197 false 1 q055 (fun l K => match l with
    | [.i n, .n h0_n, .f h0, .n h1_0_n, .n h1_0_l, .n h1_0_c, .i h1_1, .i h1_2] => q019 none N n h0_n h0 h1_0_n h1_0_l h1_0_c h1_1 h1_2 (fun r__ h1_1_ h1_2_ => retK (buildS q056 [.f r__, .n h0_n, .f h0, .n h1_0_n, .n h1_0_l, .n h1_0_c, .i h1_1_, .i h1_2_]) K)
    | _ => none)
theorem q059 {α : Type} (N : Nat) : EnvOk Try.prog (q058 α N) := (q054 N).addFun q03v q03w (d := 1) fun l K r h => by
  split at h
  · exact (q057 N _ _ _ _ _ _ _ _ K).trans h
  · cases h
def q05a (α : Type) (N : Nat) : Env α := (q058 α N).addAnn 122 3 { head := [1, 4, 5, 6, 7], grow := [], out := [1, 4, 5, 6], ret := [4] }
theorem q05b {α : Type} (N : Nat) : EnvOk Try.prog (q05a α N) := (q059 N).addAnn
def q05c : SPat := ⟨[.undef, .int .i64, .undef, .undef, .ptr ⟨⟨2, 0⟩, 0, 0, 1⟩, .ptr ⟨⟨3, 0⟩, 0, 0, 8⟩, .ptr ⟨⟨4, 0⟩, 0, 0, 8⟩, .int .i64] ++ List.replicate 66 .undef, [[.intsV .u8], [.vals [.sliceV 0 0 0 1 false, .int .i64, .int .u64]], [.vals [.int .i64], .ints .u8 8, .ints .u8 8], [.ints .u8 8], [.ints .u8 8]]⟩
def q05d : SPat := ⟨[.undef, .int .i64, .undef, .undef, .ptr ⟨⟨2, 0⟩, 0, 0, 1⟩, .ptr ⟨⟨3, 0⟩, 0, 0, 8⟩, .ptr ⟨⟨4, 0⟩, 0, 0, 8⟩] ++ List.replicate 67 .undef, [[.intsV .u8], [.vals [.sliceV 0 0 0 1 false, .int .i64, .int .u64]], [.vals [.int .i64], .ints .u8 8, .ints .u8 8], [.ints .u8 8], [.ints .u8 8]]⟩
theorem q05e {α : Type} (N : Nat) (t1 t7 : Int) (h0_n : Nat) (h0 : NI) (h1_0_n h1_0_l h1_0_c : Nat) (h1_1 h1_2 h2_0 : Int) (h2_1 h2_2 h3 h4 : NI) (kn : St -> Option α) (K : AExit -> St -> Option α) :
    roundK Try.prog (q05a α N) 1 1 122 Try.f122 3 5 (buildS q05c [.i t1, .i t7, .n h0_n, .f h0, .n h1_0_n, .n h1_0_l, .n h1_0_c, .i h1_1, .i h1_2, .i h2_0, .f h2_1, .f h2_2, .f h3, .f h4]) kn K = q01a none t1 h0_n h0 h1_0_n h1_0_l h1_0_c h1_1 h1_2 h2_0 h2_1 h2_2 h3 t7 h4 (fun t7 h4 => kn (buildS q05c [.i t1, .i t7, .n h0_n, .f h0, .n h1_0_n, .n h1_0_l, .n h1_0_c, .i h1_1, .i h1_2, .i h2_0, .f h2_1, .f h2_2, .f h3, .f h4])) (fun h4_ => K (.exit 0) (buildS q05d [.i t1, .n h0_n, .f h0, .n h1_0_n, .n h1_0_l, .n h1_0_c, .i h1_1, .i h1_2, .i h2_0, .f h2_1, .f h2_2, .f h3, .f h4_])) := by kernel_rfl
theorem q05f {α : Type} (N : Nat) (t1 : Int) (h0_n : Nat) (h0 : NI) (h1_0_n h1_0_l h1_0_c : Nat) (h1_1 h1_2 h2_0 : Int) (h2_1 h2_2 h3 : NI) (K : AExit -> St -> Option α) : ∀ (m : Nat) (t7 : Int) (h4 : NI),
    loopN (trimSt ((q05a α N).ann 122 3).head ((q05a α N).ann 122 3).grow 5) (bodyK Try.prog (q05a α N) 1 1 122 Try.f122 3) m (buildS q05c [.i t1, .i t7, .n h0_n, .f h0, .n h1_0_n, .n h1_0_l, .n h1_0_c, .i h1_1, .i h1_2, .i h2_0, .f h2_1, .f h2_2, .f h3, .f h4]) (leaveLoop ((q05a α N).ann 122 3) 5 K) = q01b none t1 h0_n h0 h1_0_n h1_0_l h1_0_c h1_1 h1_2 h2_0 h2_1 h2_2 h3 m t7 h4 (fun h4_ => K (.exit 0) (buildS q05d [.i t1, .n h0_n, .f h0, .n h1_0_n, .n h1_0_l, .n h1_0_c, .i h1_1, .i h1_2, .i h2_0, .f h2_1, .f h2_2, .f h3, .f h4_])) := by
  intro m
  induction m with
  | zero => intros; rfl
  | succ m ih =>
    intro t7 h4
    rw [loopN_round]
    refine (q05e N t1 t7 h0_n h0 h1_0_n h1_0_l h1_0_c h1_1 h1_2 h2_0 h2_1 h2_2 h3 h4 _ K).trans ?_
    simp only [ih]
    rfl
def q05g (α : Type) (N : Nat) : Env α := (q05a α N).addLoop2 122 3 (loopSum2 ((q05a α N).ann 122 3) 1 q05c (fun l K => match l with
    | [.i t1, .i t7, .n h0_n, .f h0, .n h1_0_n, .n h1_0_l, .n h1_0_c, .i h1_1, .i h1_2, .i h2_0, .f h2_1, .f h2_2, .f h3, .f h4] => q01b none t1 h0_n h0 h1_0_n h1_0_l h1_0_c h1_1 h1_2 h2_0 h2_1 h2_2 h3 N t7 h4 (fun h4_ => K (.exit 0) (buildS q05d [.i t1, .n h0_n, .f h0, .n h1_0_n, .n h1_0_l, .n h1_0_c, .i h1_1, .i h1_2, .i h2_0, .f h2_1, .f h2_2, .f h3, .f h4_]))
    | _ => none) ((q05a α N).ls 122 3))
theorem q05h {α : Type} (N : Nat) : EnvOk Try.prog (q05g α N) := (q05b N).addLoop2 Try.func122 (by kernel_rfl) (loopSum_ok q03v q03w (q05b N) Try.func122 (by kernel_rfl) (d := 1) (ro := 1) fun l K r h => by
  split at h
  · exact (q05f N _ _ _ _ _ _ _ _ _ _ _ _ K N _ _).trans h
  · cases h)
def q05i : SPat := ⟨[.int .i64, .int .i64, .int .i64], []⟩
def q05j : SPat := ⟨[.bool], []⟩
theorem q05k {α : Type} (N : Nat) (n low high : Int) (K : AV -> Heap -> Option α) :
    callK Try.prog (q05g α N) 1 119 0 (buildS q05i [.i n, .i low, .i high]).t (buildS q05i [.i n, .i low, .i high]).h K = q000 none N n low high (fun r__ => retK (buildS q05j [.b r__]) K) := by kernel_rfl
def q05l (α : Type) (N : Nat) : Env α := (q05g α N).addFun 119 true 0 q05i (fun l K => match l with
    | [.i n, .i low, .i high] => q000 none N n low high (fun r__ => retK (buildS q05j [.b r__]) K)
    | _ => none)
theorem q05m {α : Type} (N : Nat) : EnvOk Try.prog (q05l α N) := (q05h N).addFun q03v q03w (d := 1) fun l K r h => by
  split at h
  · exact (q05k N _ _ _ K).trans h
  · cases h
def q05n (α : Type) (N : Nat) : Env α := (q05l α N).addAnn 193 3 { head := [1, 2, 5, 6], grow := [], out := [], ret := [4] }
theorem q05o {α : Type} (N : Nat) : EnvOk Try.prog (q05n α N) := (q05m N).addAnn
def q05p : SPat := ⟨[.undef, .int .i64, .ptr ⟨⟨0, 0⟩, 0, 0, 8⟩, .undef, .undef, .ptr ⟨⟨1, 0⟩, 0, 0, 8⟩, .int .i64] ++ List.replicate 29 .undef, [[.ints .u8 8], [.bools 8]]⟩
def q05q : SPat := ⟨[.undef, .undef, .undef, .undef, .boolC false] ++ List.replicate 31 .undef, [[.ints .u8 8], [.bools 8]]⟩
def q05r : SPat := ⟨[] ++ List.replicate 36 .undef, [[.ints .u8 8], [.bools 8]]⟩
theorem q05s {α : Type} (N : Nat) (n i : Int) (h0 : NI) (h1 : Nat -> Bool) (kn : St -> Option α) (K : AExit -> St -> Option α) :
    roundK Try.prog (q05n α N) 1 0 193 Try.f193 3 2 (buildS q05p [.i n, .i i, .f h0, .g h1]) kn K = q002 none n h0 i h1 (fun i h1 => kn (buildS q05p [.i n, .i i, .f h0, .g h1])) (fun h1_ => K .ret (buildS q05q [.f h0, .g h1_])) (fun h1_ => K (.exit 0) (buildS q05r [.f h0, .g h1_])) := by kernel_rfl
theorem q05t {α : Type} (N : Nat) (n : Int) (h0 : NI) (K : AExit -> St -> Option α) : ∀ (m : Nat) (i : Int) (h1 : Nat -> Bool),
    loopN (trimSt ((q05n α N).ann 193 3).head ((q05n α N).ann 193 3).grow 2) (bodyK Try.prog (q05n α N) 1 0 193 Try.f193 3) m (buildS q05p [.i n, .i i, .f h0, .g h1]) (leaveLoop ((q05n α N).ann 193 3) 2 K) = q003 none n h0 m i h1 (fun h1_ => K .ret (buildS q05q [.f h0, .g h1_])) (fun h1_ => K (.exit 0) (buildS q05r [.f h0, .g h1_])) := by
  intro m
  induction m with
  | zero => intros; rfl
  | succ m ih =>
    intro i h1
    rw [loopN_round]
    refine (q05s N n i h0 h1 _ K).trans ?_
    simp only [ih]
    rfl
def q05u (α : Type) (N : Nat) : Env α := (q05n α N).addLoop2 193 3 (loopSum2 ((q05n α N).ann 193 3) 0 q05p (fun l K => match l with
    | [.i n, .i i, .f h0, .g h1] => q003 none n h0 N i h1 (fun h1_ => K .ret (buildS q05q [.f h0, .g h1_])) (fun h1_ => K (.exit 0) (buildS q05r [.f h0, .g h1_]))
    | _ => none) ((q05n α N).ls 193 3))
theorem q05v {α : Type} (N : Nat) : EnvOk Try.prog (q05u α N) := (q05o N).addLoop2 Try.func193 (by kernel_rfl) (loopSum_ok q03v q03w (q05o N) Try.func193 (by kernel_rfl) (d := 1) (ro := 0) fun l K r h => by
  split at h
  · exact (q05t N _ _ K N _ _).trans h
  · cases h)
def q05w : SPat := ⟨[.agg [.ints .u8 8], .int .i64], []⟩
def q05x : SPat := ⟨[.bool], []⟩
theorem q05y {α : Type} (N : Nat) (list : NI) (n : Int) (K : AV -> Heap -> Option α) :
    callK Try.prog (q05u α N) 1 193 0 (buildS q05w [.f list, .i n]).t (buildS q05w [.f list, .i n]).h K = q004 none N list n (fun r__ => retK (buildS q05x [.b r__]) K) := by kernel_rfl
def q05z (α : Type) (N : Nat) : Env α := (q05u α N).addFun 193 true 0 q05w (fun l K => match l with
    | [.f list, .i n] => q004 none N list n (fun r__ => retK (buildS q05x [.b r__]) K)
    | _ => none)
theorem q060 {α : Type} (N : Nat) : EnvOk Try.prog (q05z α N) := (q05v N).addFun q03v q03w (d := 1) fun l K r h => by
  split at h
  · exact (q05y N _ _ K).trans h
  · cases h
def q061 (α : Type) (N : Nat) : Env α := (q05z α N).addAnn 107 4 { head := [1, 3], grow := [], out := [], ret := [2] }
theorem q062 {α : Type} (N : Nat) : EnvOk Try.prog (q061 α N) := (q060 N).addAnn
def q063 : SPat := ⟨[.undef, .ptr ⟨⟨0, 0⟩, 0, 0, 1⟩, .undef, .int .i64] ++ List.replicate 35 .undef, [[.vals [.int .i64], .ints .u8 8, .ints .u8 8]]⟩
def q064 : SPat := ⟨[.undef, .undef, .boolC false] ++ List.replicate 36 .undef, [[.vals [.int .i64], .ints .u8 8, .ints .u8 8]]⟩
def q065 : SPat := ⟨[] ++ List.replicate 39 .undef, [[.vals [.int .i64], .ints .u8 8, .ints .u8 8]]⟩
theorem q066 {α : Type} (N : Nat) (i h0_0 : Int) (h0_1 h0_2 : NI) (kn : St -> Option α) (K : AExit -> St -> Option α) :
    roundK Try.prog (q061 α N) 1 0 107 Try.f107 4 1 (buildS q063 [.i i, .i h0_0, .f h0_1, .f h0_2]) kn K = q005 none h0_0 h0_1 h0_2 i (fun i => kn (buildS q063 [.i i, .i h0_0, .f h0_1, .f h0_2])) (K .ret (buildS q064 [.i h0_0, .f h0_1, .f h0_2])) (K (.exit 0) (buildS q065 [.i h0_0, .f h0_1, .f h0_2])) := by kernel_rfl
theorem q067 {α : Type} (N : Nat) (h0_0 : Int) (h0_1 h0_2 : NI) (K : AExit -> St -> Option α) : ∀ (m : Nat) (i : Int),
    loopN (trimSt ((q061 α N).ann 107 4).head ((q061 α N).ann 107 4).grow 1) (bodyK Try.prog (q061 α N) 1 0 107 Try.f107 4) m (buildS q063 [.i i, .i h0_0, .f h0_1, .f h0_2]) (leaveLoop ((q061 α N).ann 107 4) 1 K) = q006 none h0_0 h0_1 h0_2 m i (K .ret (buildS q064 [.i h0_0, .f h0_1, .f h0_2])) (K (.exit 0) (buildS q065 [.i h0_0, .f h0_1, .f h0_2])) := by
  intro m
  induction m with
  | zero => intros; rfl
  | succ m ih =>
    intro i
    rw [loopN_round]
    refine (q066 N i h0_0 h0_1 h0_2 _ K).trans ?_
    simp only [ih]
    rfl
def q068 (α : Type) (N : Nat) : Env α := (q061 α N).addLoop2 107 4 (loopSum2 ((q061 α N).ann 107 4) 0 q063 (fun l K => match l with
    | [.i i, .i h0_0, .f h0_1, .f h0_2] => q006 none h0_0 h0_1 h0_2 N i (K .ret (buildS q064 [.i h0_0, .f h0_1, .f h0_2])) (K (.exit 0) (buildS q065 [.i h0_0, .f h0_1, .f h0_2]))
    | _ => none) ((q061 α N).ls 107 4))
theorem q069 {α : Type} (N : Nat) : EnvOk Try.prog (q068 α N) := (q062 N).addLoop2 Try.func107 (by kernel_rfl) (loopSum_ok q03v q03w (q062 N) Try.func107 (by kernel_rfl) (d := 1) (ro := 0) fun l K r h => by
  split at h
  · exact (q067 N _ _ _ K N _).trans h
  · cases h)
def q06a : SPat := ⟨[.agg [.vals [.int .i64], .ints .u8 8, .ints .u8 8]], []⟩
def q06b : SPat := ⟨[.bool], []⟩
theorem q06c {α : Type} (N : Nat) (g_0 : Int) (g_1 g_2 : NI) (K : AV -> Heap -> Option α) :
    callK Try.prog (q068 α N) 1 107 0 (buildS q06a [.i g_0, .f g_1, .f g_2]).t (buildS q06a [.i g_0, .f g_1, .f g_2]).h K = q007 none N g_0 g_1 g_2 (fun r__ => retK (buildS q06b [.b r__]) K) := by kernel_rfl
def q06d (α : Type) (N : Nat) : Env α := (q068 α N).addFun 107 true 0 q06a (fun l K => match l with
    | [.i g_0, .f g_1, .f g_2] => q007 none N g_0 g_1 g_2 (fun r__ => retK (buildS q06b [.b r__]) K)
    | _ => none)
theorem q06e {α : Type} (N : Nat) : EnvOk Try.prog (q06d α N) := (q069 N).addFun q03v q03w (d := 1) fun l K r h => by
  split at h
  · exact (q06c N _ _ _ K).trans h
  · cases h
def q06f (α : Type) (N : Nat) : Env α := (q06d α N).addAnn 122 14 { head := [1, 4, 5, 11, 12], grow := [], out := [4, 11], ret := [4] }
theorem q06g {α : Type} (N : Nat) : EnvOk Try.prog (q06f α N) := (q06e N).addAnn
def q06h : SPat := ⟨[.undef, .int .i64, .undef, .undef, .ptr ⟨⟨2, 0⟩, 0, 0, 1⟩, .ptr ⟨⟨3, 0⟩, 0, 0, 8⟩, .undef, .undef, .undef, .undef, .undef, .ptr ⟨⟨5, 0⟩, 0, 0, 1⟩, .int .i64] ++ List.replicate 61 .undef, [[.intsV .u8], [.vals [.sliceV 0 0 0 1 false, .int .i64, .int .u64]], [.vals [.int .i64], .ints .u8 8, .ints .u8 8], [.ints .u8 8], [.ints .u8 8], [.vals [.int .i64], .ints .u8 8, .ints .u8 8]]⟩
def q06i : SPat := ⟨[.undef, .undef, .undef, .undef, .ptr ⟨⟨2, 0⟩, 0, 0, 1⟩, .undef, .undef, .undef, .undef, .undef, .undef, .ptr ⟨⟨5, 0⟩, 0, 0, 1⟩] ++ List.replicate 62 .undef, [[.intsV .u8], [.vals [.sliceV 0 0 0 1 false, .int .i64, .int .u64]], [.vals [.int .i64], .ints .u8 8, .ints .u8 8], [.ints .u8 8], [.ints .u8 8], [.vals [.int .i64], .ints .u8 8, .ints .u8 8]]⟩
theorem q06j {α : Type} (N : Nat) (t1 t12 : Int) (h0_n : Nat) (h0 : NI) (h1_0_n h1_0_l h1_0_c : Nat) (h1_1 h1_2 h2_0 : Int) (h2_1 h2_2 h3 h4 : NI) (h5_0 : Int) (h5_1 h5_2 : NI) (kn : St -> Option α) (K : AExit -> St -> Option α) :
    roundK Try.prog (q06f α N) 1 1 122 Try.f122 14 6 (buildS q06h [.i t1, .i t12, .n h0_n, .f h0, .n h1_0_n, .n h1_0_l, .n h1_0_c, .i h1_1, .i h1_2, .i h2_0, .f h2_1, .f h2_2, .f h3, .f h4, .i h5_0, .f h5_1, .f h5_2]) kn K = q01c none t1 h0_n h0 h1_0_n h1_0_l h1_0_c h1_1 h1_2 h2_0 h2_1 h2_2 h3 h4 h5_0 h5_1 t12 h5_2 (fun t12 h5_2 => kn (buildS q06h [.i t1, .i t12, .n h0_n, .f h0, .n h1_0_n, .n h1_0_l, .n h1_0_c, .i h1_1, .i h1_2, .i h2_0, .f h2_1, .f h2_2, .f h3, .f h4, .i h5_0, .f h5_1, .f h5_2])) (fun h5_2_ => K (.exit 2) (buildS q06i [.n h0_n, .f h0, .n h1_0_n, .n h1_0_l, .n h1_0_c, .i h1_1, .i h1_2, .i h2_0, .f h2_1, .f h2_2, .f h3, .f h4, .i h5_0, .f h5_1, .f h5_2_])) := by kernel_rfl
theorem q06k {α : Type} (N : Nat) (t1 : Int) (h0_n : Nat) (h0 : NI) (h1_0_n h1_0_l h1_0_c : Nat) (h1_1 h1_2 h2_0 : Int) (h2_1 h2_2 h3 h4 : NI) (h5_0 : Int) (h5_1 : NI) (K : AExit -> St -> Option α) : ∀ (m : Nat) (t12 : Int) (h5_2 : NI),
    loopN (trimSt ((q06f α N).ann 122 14).head ((q06f α N).ann 122 14).grow 6) (bodyK Try.prog (q06f α N) 1 1 122 Try.f122 14) m (buildS q06h [.i t1, .i t12, .n h0_n, .f h0, .n h1_0_n, .n h1_0_l, .n h1_0_c, .i h1_1, .i h1_2, .i h2_0, .f h2_1, .f h2_2, .f h3, .f h4, .i h5_0, .f h5_1, .f h5_2]) (leaveLoop ((q06f α N).ann 122 14) 6 K) = q01d none t1 h0_n h0 h1_0_n h1_0_l h1_0_c h1_1 h1_2 h2_0 h2_1 h2_2 h3 h4 h5_0 h5_1 m t12 h5_2 (fun h5_2_ => K (.exit 2) (buildS q06i [.n h0_n, .f h0, .n h1_0_n, .n h1_0_l, .n h1_0_c, .i h1_1, .i h1_2, .i h2_0, .f h2_1, .f h2_2, .f h3, .f h4, .i h5_0, .f h5_1, .f h5_2_])) := by
  intro m
  induction m with
  | zero => intros; rfl
  | succ m ih =>
    intro t12 h5_2
    rw [loopN_round]
    refine (q06j N t1 t12 h0_n h0 h1_0_n h1_0_l h1_0_c h1_1 h1_2 h2_0 h2_1 h2_2 h3 h4 h5_0 h5_1 h5_2 _ K).trans ?_
    simp only [ih]
    rfl
def q06l (α : Type) (N : Nat) : Env α := (q06f α N).addLoop2 122 14 (loopSum2 ((q06f α N).ann 122 14) 1 q06h (fun l K => match l with
    | [.i t1, .i t12, .n h0_n, .f h0, .n h1_0_n, .n h1_0_l, .n h1_0_c, .i h1_1, .i h1_2, .i h2_0, .f h2_1, .f h2_2, .f h3, .f h4, .i h5_0, .f h5_1, .f h5_2] => q01d none t1 h0_n h0 h1_0_n h1_0_l h1_0_c h1_1 h1_2 h2_0 h2_1 h2_2 h3 h4 h5_0 h5_1 N t12 h5_2 (fun h5_2_ => K (.exit 2) (buildS q06i [.n h0_n, .f h0, .n h1_0_n, .n h1_0_l, .n h1_0_c, .i h1_1, .i h1_2, .i h2_0, .f h2_1, .f h2_2, .f h3, .f h4, .i h5_0, .f h5_1, .f h5_2_]))
    | _ => none) ((q06f α N).ls 122 14))
theorem q06m {α : Type} (N : Nat) : EnvOk Try.prog (q06l α N) := (q06g N).addLoop2 Try.func122 (by kernel_rfl) (loopSum_ok q03v q03w (q06g N) Try.func122 (by kernel_rfl) (d := 1) (ro := 1) fun l K r h => by
  split at h
  · exact (q06k N _ _ _ _ _ _ _ _ _ _ _ _ _ _ _ K N _ _).trans h
  · cases h)
def q06n : SPat := ⟨[.ptr ⟨⟨1, 0⟩, 0, 0, 3⟩, .int .i64], [[.intsV .u8], [.vals [.sliceV 0 0 0 1 false, .int .i64, .int .u64]]]⟩
def q06o : SPat := ⟨[.agg [.vals [.int .i64], .ints .u8 8, .ints .u8 8]], [[.intsV .u8], [.vals [.sliceV 0 0 0 1 false, .int .i64, .int .u64]]]⟩
theorem q06p {α : Type} (N : Nat) (a1 : Int) (h0_n : Nat) (h0 : NI) (h1_0_n h1_0_l h1_0_c : Nat) (h1_1 h1_2 : Int) (K : AV -> Heap -> Option α) :
    callK Try.prog (q06l α N) 1 122 1 (buildS q06n [.i a1, .n h0_n, .f h0, .n h1_0_n, .n h1_0_l, .n h1_0_c, .i h1_1, .i h1_2]).t (buildS q06n [.i a1, .n h0_n, .f h0, .n h1_0_n, .n h1_0_l, .n h1_0_c, .i h1_1, .i h1_2]).h K = q01e none N a1 h0_n h0 h1_0_n h1_0_l h1_0_c h1_1 h1_2 (fun r_1_ r_2_ h1_1_ h1_2_ => retK (buildS q06o [.i a1, .f r_1_, .f r_2_, .n h0_n, .f h0, .n h1_0_n, .n h1_0_l, .n h1_0_c, .i h1_1_, .i h1_2_]) K) := by kernel_rfl
def q06q (α : Type) (N : Nat) : Env α := (q06l α N).addFun 122 false 1 q06n (fun l K => match l with
    | [.i a1, .n h0_n, .f h0, .n h1_0_n, .n h1_0_l, .n h1_0_c, .i h1_1, .i h1_2] => q01e none N a1 h0_n h0 h1_0_n h1_0_l h1_0_c h1_1 h1_2 (fun r_1_ r_2_ h1_1_ h1_2_ => retK (buildS q06o [.i a1, .f r_1_, .f r_2_, .n h0_n, .f h0, .n h1_0_n, .n h1_0_l, .n h1_0_c, .i h1_1_, .i h1_2_]) K)
    | _ => none)
theorem q06r {α : Type} (N : Nat) : EnvOk Try.prog (q06q α N) := (q06m N).addFun q03v q03w (d := 1) fun l K r h => by
  split at h
  · exact (q06p N _ _ _ _ _ _ _ _ K).trans h
  · cases h
def q06s : SPat := ⟨[.ptr ⟨⟨1, 0⟩, 0, 0, 3⟩, .slice ⟨⟨2, 0⟩, 0, 0, 5⟩ 5 5 1 true], [[.intsV .u8], [.vals [.sliceV 0 0 0 1 false, .int .i64, .int .u64]], [.vec .i64]]⟩
def q06t : SPat := ⟨[.int .i64], [[.intsV .u8], [.vals [.sliceV 0 0 0 1 false, .int .i64, .int .u64]], [.vec .i64]]⟩
theorem q06u {α : Type} (N h0_n : Nat) (h0 : NI) (h1_0_n h1_0_l h1_0_c : Nat) (h1_1 h1_2 : Int) (h2 : List Int) (K : AV -> Heap -> Option α) :
    callK Try.prog (q06q α N) 1 115 1 (buildS q06s [.n h0_n, .f h0, .n h1_0_n, .n h1_0_l, .n h1_0_c, .i h1_1, .i h1_2, .l h2]).t (buildS q06s [.n h0_n, .f h0, .n h1_0_n, .n h1_0_l, .n h1_0_c, .i h1_1, .i h1_2, .l h2]).h K = q01f none N h0_n h0 h1_0_n h1_0_l h1_0_c h1_1 h1_2 h2 (fun r__ h1_1_ h1_2_ => retK (buildS q06t [.i r__, .n h0_n, .f h0, .n h1_0_n, .n h1_0_l, .n h1_0_c, .i h1_1_, .i h1_2_, .l h2]) K) := by kernel_rfl
def q06v (α : Type) (N : Nat) : Env α := (q06q α N).addFun 115 false 1 q06s (fun l K => match l with
    | [.n h0_n, .f h0, .n h1_0_n, .n h1_0_l, .n h1_0_c, .i h1_1, .i h1_2, .l h2] => q01f none N h0_n h0 h1_0_n h1_0_l h1_0_c h1_1 h1_2 h2 (fun r__ h1_1_ h1_2_ => retK (buildS q06t [.i r__, .n h0_n, .f h0, .n h1_0_n, .n h1_0_l, .n h1_0_c, .i h1_1_, .i h1_2_, .l h2]) K)
    | _ => none)
theorem q06w {α : Type} (N : Nat) : EnvOk Try.prog (q06v α N) := (q06r N).addFun q03v q03w (d := 1) fun l K r h => by
  split at h
  · exact (q06u N _ _ _ _ _ _ _ _ K).trans h
  · cases h
def q06x (α : Type) (N : Nat) : Env α := (q06v α N).addAnn 192 7 { head := [0, 2, 3, 4, 5, 6], grow := [], out := [0, 2, 4, 5], ret := [2] }
theorem q06y {α : Type} (N : Nat) : EnvOk Try.prog (q06x α N) := (q06w N).addAnn
def q06z : SPat := ⟨[.ptr ⟨⟨1, 0⟩, 0, 0, 3⟩, .undef, .ptr ⟨⟨2, 0⟩, 0, 0, 1⟩, .int .i64, .int .i64, .ptr ⟨⟨3, 0⟩, 0, 0, 1⟩, .int .i64] ++ List.replicate 55 .undef, [[.intsV .u8], [.vals [.sliceV 0 0 0 1 false, .int .i64, .int .u64]], [.vals [.int .i64], .ints .u8 8, .ints .u8 8], [.vals [.int .i64], .ints .u8 8, .ints .u8 8]]⟩
def q070 : SPat := ⟨[.ptr ⟨⟨1, 0⟩, 0, 0, 3⟩, .undef, .ptr ⟨⟨2, 0⟩, 0, 0, 1⟩, .undef, .int .i64, .ptr ⟨⟨3, 0⟩, 0, 0, 1⟩] ++ List.replicate 56 .undef, [[.intsV .u8], [.vals [.sliceV 0 0 0 1 false, .int .i64, .int .u64]], [.vals [.int .i64], .ints .u8 8, .ints .u8 8], [.vals [.int .i64], .ints .u8 8, .ints .u8 8]]⟩
theorem q071 {α : Type} (N : Nat) (p n i : Int) (h0_n : Nat) (h0 : NI) (h1_0_n h1_0_l h1_0_c : Nat) (h1_1 h1_2 h2_0 : Int) (h2_1 h2_2 : NI) (h3_0 : Int) (h3_1 h3_2 : NI) (kn : St -> Option α) (K : AExit -> St -> Option α) :
    roundK Try.prog (q06x α N) 1 1 192 Try.f192 7 4 (buildS q06z [.i p, .i n, .i i, .n h0_n, .f h0, .n h1_0_n, .n h1_0_l, .n h1_0_c, .i h1_1, .i h1_2, .i h2_0, .f h2_1, .f h2_2, .i h3_0, .f h3_1, .f h3_2]) kn K = q01g none p n h0_n h0 h1_0_n h1_0_l h1_0_c h1_1 h1_2 h2_0 h2_1 h2_2 h3_0 i h3_1 h3_2 (fun i h3_1 h3_2 => kn (buildS q06z [.i p, .i n, .i i, .n h0_n, .f h0, .n h1_0_n, .n h1_0_l, .n h1_0_c, .i h1_1, .i h1_2, .i h2_0, .f h2_1, .f h2_2, .i h3_0, .f h3_1, .f h3_2])) (fun h3_1_ h3_2_ => K (.exit 1) (buildS q070 [.i n, .n h0_n, .f h0, .n h1_0_n, .n h1_0_l, .n h1_0_c, .i h1_1, .i h1_2, .i h2_0, .f h2_1, .f h2_2, .i h3_0, .f h3_1_, .f h3_2_])) := by kernel_rfl
theorem q072 {α : Type} (N : Nat) (p n : Int) (h0_n : Nat) (h0 : NI) (h1_0_n h1_0_l h1_0_c : Nat) (h1_1 h1_2 h2_0 : Int) (h2_1 h2_2 : NI) (h3_0 : Int) (K : AExit -> St -> Option α) : ∀ (m : Nat) (i : Int) (h3_1 h3_2 : NI),
    loopN (trimSt ((q06x α N).ann 192 7).head ((q06x α N).ann 192 7).grow 4) (bodyK Try.prog (q06x α N) 1 1 192 Try.f192 7) m (buildS q06z [.i p, .i n, .i i, .n h0_n, .f h0, .n h1_0_n, .n h1_0_l, .n h1_0_c, .i h1_1, .i h1_2, .i h2_0, .f h2_1, .f h2_2, .i h3_0, .f h3_1, .f h3_2]) (leaveLoop ((q06x α N).ann 192 7) 4 K) = q01h none p n h0_n h0 h1_0_n h1_0_l h1_0_c h1_1 h1_2 h2_0 h2_1 h2_2 h3_0 m i h3_1 h3_2 (fun h3_1_ h3_2_ => K (.exit 1) (buildS q070 [.i n, .n h0_n, .f h0, .n h1_0_n, .n h1_0_l, .n h1_0_c, .i h1_1, .i h1_2, .i h2_0, .f h2_1, .f h2_2, .i h3_0, .f h3_1_, .f h3_2_])) := by
  intro m
  induction m with
  | zero => intros; rfl
  | succ m ih =>
    intro i h3_1 h3_2
    rw [loopN_round]
    refine (q071 N p n i h0_n h0 h1_0_n h1_0_l h1_0_c h1_1 h1_2 h2_0 h2_1 h2_2 h3_0 h3_1 h3_2 _ K).trans ?_
    simp only [ih]
    rfl
def q073 (α : Type) (N : Nat) : Env α := (q06x α N).addLoop2 192 7 (loopSum2 ((q06x α N).ann 192 7) 1 q06z (fun l K => match l with
    | [.i p, .i n, .i i, .n h0_n, .f h0, .n h1_0_n, .n h1_0_l, .n h1_0_c, .i h1_1, .i h1_2, .i h2_0, .f h2_1, .f h2_2, .i h3_0, .f h3_1, .f h3_2] => q01h none p n h0_n h0 h1_0_n h1_0_l h1_0_c h1_1 h1_2 h2_0 h2_1 h2_2 h3_0 N i h3_1 h3_2 (fun h3_1_ h3_2_ => K (.exit 1) (buildS q070 [.i n, .n h0_n, .f h0, .n h1_0_n, .n h1_0_l, .n h1_0_c, .i h1_1, .i h1_2, .i h2_0, .f h2_1, .f h2_2, .i h3_0, .f h3_1_, .f h3_2_]))
    | _ => none) ((q06x α N).ls 192 7))
theorem q074 {α : Type} (N : Nat) : EnvOk Try.prog (q073 α N) := (q06y N).addLoop2 Try.func192 (by kernel_rfl) (loopSum_ok q03v q03w (q06y N) Try.func192 (by kernel_rfl) (d := 1) (ro := 1) fun l K r h => by
  split at h
  · exact (q072 N _ _ _ _ _ _ _ _ _ _ _ _ _ K N _ _ _).trans h
  · cases h)
def q075 (α : Type) (N : Nat) : Env α := (q073 α N).addAnn 120 3 { head := [1, 2, 3, 6, 7, 8, 9], grow := [], out := [6, 8], ret := [6] }
theorem q076 {α : Type} (N : Nat) : EnvOk Try.prog (q075 α N) := (q074 N).addAnn
def q077 : SPat := ⟨[.undef, .int .i64, .int .i64, .ptr ⟨⟨0, 0⟩, 0, 0, 1⟩, .undef, .undef, .ptr ⟨⟨1, 0⟩, 0, 0, 1⟩, .int .i64, .ptr ⟨⟨2, 0⟩, 0, 0, 1⟩, .int .i64] ++ List.replicate 55 .undef, [[.vals [.int .i64], .ints .u8 8, .ints .u8 8], [.vals [.int .i64], .ints .u8 8, .ints .u8 8], [.vals [.int .i64], .ints .u8 8, .ints .u8 8]]⟩
def q078 : SPat := ⟨[.undef, .undef, .undef, .undef, .undef, .undef, .ptr ⟨⟨1, 0⟩, 0, 0, 1⟩, .undef, .ptr ⟨⟨2, 0⟩, 0, 0, 1⟩] ++ List.replicate 56 .undef, [[.vals [.int .i64], .ints .u8 8, .ints .u8 8], [.vals [.int .i64], .ints .u8 8, .ints .u8 8], [.vals [.int .i64], .ints .u8 8, .ints .u8 8]]⟩
theorem q079 {α : Type} (N : Nat) (t1 t2 t7 t9 h0_0 : Int) (h0_1 h0_2 : NI) (h1_0 : Int) (h1_1 h1_2 : NI) (h2_0 : Int) (h2_1 h2_2 : NI) (kn : St -> Option α) (K : AExit -> St -> Option α) :
    roundK Try.prog (q075 α N) 1 0 120 Try.f120 3 3 (buildS q077 [.i t1, .i t2, .i t7, .i t9, .i h0_0, .f h0_1, .f h0_2, .i h1_0, .f h1_1, .f h1_2, .i h2_0, .f h2_1, .f h2_2]) kn K = q00i none t1 t2 t7 h0_0 h0_1 h0_2 h1_0 h1_1 h1_2 h2_0 t9 h2_1 h2_2 (fun t9 h2_1 h2_2 => kn (buildS q077 [.i t1, .i t2, .i t7, .i t9, .i h0_0, .f h0_1, .f h0_2, .i h1_0, .f h1_1, .f h1_2, .i h2_0, .f h2_1, .f h2_2])) (fun h2_1_ h2_2_ => K (.exit 0) (buildS q078 [.i h0_0, .f h0_1, .f h0_2, .i h1_0, .f h1_1, .f h1_2, .i h2_0, .f h2_1_, .f h2_2_])) := by kernel_rfl
theorem q07a {α : Type} (N : Nat) (t1 t2 t7 h0_0 : Int) (h0_1 h0_2 : NI) (h1_0 : Int) (h1_1 h1_2 : NI) (h2_0 : Int) (K : AExit -> St -> Option α) : ∀ (m : Nat) (t9 : Int) (h2_1 h2_2 : NI),
    loopN (trimSt ((q075 α N).ann 120 3).head ((q075 α N).ann 120 3).grow 3) (bodyK Try.prog (q075 α N) 1 0 120 Try.f120 3) m (buildS q077 [.i t1, .i t2, .i t7, .i t9, .i h0_0, .f h0_1, .f h0_2, .i h1_0, .f h1_1, .f h1_2, .i h2_0, .f h2_1, .f h2_2]) (leaveLoop ((q075 α N).ann 120 3) 3 K) = q00j none t1 t2 t7 h0_0 h0_1 h0_2 h1_0 h1_1 h1_2 h2_0 m t9 h2_1 h2_2 (fun h2_1_ h2_2_ => K (.exit 0) (buildS q078 [.i h0_0, .f h0_1, .f h0_2, .i h1_0, .f h1_1, .f h1_2, .i h2_0, .f h2_1_, .f h2_2_])) := by
  intro m
  induction m with
  | zero => intros; rfl
  | succ m ih =>
    intro t9 h2_1 h2_2
    rw [loopN_round]
    refine (q079 N t1 t2 t7 t9 h0_0 h0_1 h0_2 h1_0 h1_1 h1_2 h2_0 h2_1 h2_2 _ K).trans ?_
    simp only [ih]
    rfl
def q07b (α : Type) (N : Nat) : Env α := (q075 α N).addLoop2 120 3 (loopSum2 ((q075 α N).ann 120 3) 0 q077 (fun l K => match l with
    | [.i t1, .i t2, .i t7, .i t9, .i h0_0, .f h0_1, .f h0_2, .i h1_0, .f h1_1, .f h1_2, .i h2_0, .f h2_1, .f h2_2] => q00j none t1 t2 t7 h0_0 h0_1 h0_2 h1_0 h1_1 h1_2 h2_0 N t9 h2_1 h2_2 (fun h2_1_ h2_2_ => K (.exit 0) (buildS q078 [.i h0_0, .f h0_1, .f h0_2, .i h1_0, .f h1_1, .f h1_2, .i h2_0, .f h2_1_, .f h2_2_]))
    | _ => none) ((q075 α N).ls 120 3))
theorem q07c {α : Type} (N : Nat) : EnvOk Try.prog (q07b α N) := (q076 N).addLoop2 Try.func120 (by kernel_rfl) (loopSum_ok q03v q03w (q076 N) Try.func120 (by kernel_rfl) (d := 1) (ro := 0) fun l K r h => by
  split at h
  · exact (q07a N _ _ _ _ _ _ _ _ _ _ K N _ _ _).trans h
  · cases h)
def q07d : SPat := ⟨[.agg [.vals [.int .i64], .ints .u8 8, .ints .u8 8], .int .i64, .int .i64], []⟩
def q07e : SPat := ⟨[.agg [.vals [.int .i64], .ints .u8 8, .ints .u8 8]], []⟩
theorem q07f {α : Type} (N : Nat) (g_0 : Int) (g_1 g_2 : NI) (a1 a2 : Int) (K : AV -> Heap -> Option α) :
    callK Try.prog (q07b α N) 1 120 0 (buildS q07d [.i g_0, .f g_1, .f g_2, .i a1, .i a2]).t (buildS q07d [.i g_0, .f g_1, .f g_2, .i a1, .i a2]).h K = q00k none N g_0 g_1 g_2 a1 a2 (fun r_1_ r_2_ => retK (buildS q07e [.i g_0, .f r_1_, .f r_2_]) K) := by kernel_rfl
def q07g (α : Type) (N : Nat) : Env α := (q07b α N).addFun 120 true 0 q07d (fun l K => match l with
    | [.i g_0, .f g_1, .f g_2, .i a1, .i a2] => q00k none N g_0 g_1 g_2 a1 a2 (fun r_1_ r_2_ => retK (buildS q07e [.i g_0, .f r_1_, .f r_2_]) K)
    | _ => none)
theorem q07h {α : Type} (N : Nat) : EnvOk Try.prog (q07g α N) := (q07c N).addFun q03v q03w (d := 1) fun l K r h => by
  split at h
  · exact (q07f N _ _ _ _ _ K).trans h
  · cases h
def q07i : SPat := ⟨[.ptr ⟨⟨1, 0⟩, 0, 0, 3⟩], [[.intsV .u8], [.vals [.sliceV 0 0 0 1 false, .int .i64, .int .u64]]]⟩
def q07j : SPat := ⟨[.agg [.vals [.int .i64], .ints .u8 8, .ints .u8 8]], [[.intsV .u8], [.vals [.sliceV 0 0 0 1 false, .int .i64, .int .u64]]]⟩
theorem q07k {α : Type} (N h0_n : Nat) (h0 : NI) (h1_0_n h1_0_l h1_0_c : Nat) (h1_1 h1_2 : Int) (K : AV -> Heap -> Option α) :
    callK Try.prog (q07g α N) 1 192 1 (buildS q07i [.n h0_n, .f h0, .n h1_0_n, .n h1_0_l, .n h1_0_c, .i h1_1, .i h1_2]).t (buildS q07i [.n h0_n, .f h0, .n h1_0_n, .n h1_0_l, .n h1_0_c, .i h1_1, .i h1_2]).h K = q01i none N h0_n h0 h1_0_n h1_0_l h1_0_c h1_1 h1_2 (fun r_0_ r_1_ r_2_ h1_1_ h1_2_ => retK (buildS q07j [.i r_0_, .f r_1_, .f r_2_, .n h0_n, .f h0, .n h1_0_n, .n h1_0_l, .n h1_0_c, .i h1_1_, .i h1_2_]) K) := by kernel_rfl
def q07l (α : Type) (N : Nat) : Env α := (q07g α N).addFun 192 false 1 q07i (fun l K => match l with
    | [.n h0_n, .f h0, .n h1_0_n, .n h1_0_l, .n h1_0_c, .i h1_1, .i h1_2] => q01i none N h0_n h0 h1_0_n h1_0_l h1_0_c h1_1 h1_2 (fun r_0_ r_1_ r_2_ h1_1_ h1_2_ => retK (buildS q07j [.i r_0_, .f r_1_, .f r_2_, .n h0_n, .f h0, .n h1_0_n, .n h1_0_l, .n h1_0_c, .i h1_1_, .i h1_2_]) K)
    | _ => none)
theorem q07m {α : Type} (N : Nat) : EnvOk Try.prog (q07l α N) := (q07h N).addFun q03v q03w (d := 1) fun l K r h => by
  split at h
  · exact (q07k N _ _ _ _ _ _ _ K).trans h
  · cases h
def q07n : SPat := ⟨[.ptr ⟨⟨1, 0⟩, 0, 0, 3⟩, .agg [.vals [.int .i64], .ints .u8 8, .ints .u8 8]], [[.intsV .u8], [.vals [.sliceV 0 0 0 1 false, .int .i64, .int .u64]]]⟩
def q07o : SPat := ⟨[.agg [.vals [.int .i64], .ints .u8 8, .ints .u8 8]], [[.intsV .u8], [.vals [.sliceV 0 0 0 1 false, .int .i64, .int .u64]]]⟩
theorem q07p {α : Type} (N : Nat) (g_0 : Int) (g_1 g_2 : NI) (h0_n : Nat) (h0 : NI) (h1_0_n h1_0_l h1_0_c : Nat) (h1_1 h1_2 : Int) (K : AV -> Heap -> Option α) :
    callK Try.prog (q07l α N) 1 121 1 (buildS q07n [.i g_0, .f g_1, .f g_2, .n h0_n, .f h0, .n h1_0_n, .n h1_0_l, .n h1_0_c, .i h1_1, .i h1_2]).t (buildS q07n [.i g_0, .f g_1, .f g_2, .n h0_n, .f h0, .n h1_0_n, .n h1_0_l, .n h1_0_c, .i h1_1, .i h1_2]).h K = q01j none N g_0 g_1 g_2 h0_n h0 h1_0_n h1_0_l h1_0_c h1_1 h1_2 (fun r_0_ r_1_ r_2_ h1_1_ h1_2_ => retK (buildS q07o [.i r_0_, .f r_1_, .f r_2_, .n h0_n, .f h0, .n h1_0_n, .n h1_0_l, .n h1_0_c, .i h1_1_, .i h1_2_]) K) := by kernel_rfl
def q07q (α : Type) (N : Nat) : Env α := (q07l α N).addFun 121 false 1 q07n (fun l K => match l with
    | [.i g_0, .f g_1, .f g_2, .n h0_n, .f h0, .n h1_0_n, .n h1_0_l, .n h1_0_c, .i h1_1, .i h1_2] => q01j none N g_0 g_1 g_2 h0_n h0 h1_0_n h1_0_l h1_0_c h1_1 h1_2 (fun r_0_ r_1_ r_2_ h1_1_ h1_2_ => retK (buildS q07o [.i r_0_, .f r_1_, .f r_2_, .n h0_n, .f h0, .n h1_0_n, .n h1_0_l, .n h1_0_c, .i h1_1_, .i h1_2_]) K)
    | _ => none)
theorem q07r {α : Type} (N : Nat) : EnvOk Try.prog (q07q α N) := (q07m N).addFun q03v q03w (d := 1) fun l K r h => by
  split at h
  · exact (q07p N _ _ _ _ _ _ _ _ _ _ K).trans h
  · cases h
def q07s : SPat := ⟨[.ptr ⟨⟨1, 0⟩, 0, 0, 3⟩], [[.intsV .u8], [.vals [.sliceV 0 0 0 1 false, .int .i64, .int .u64]]]⟩
def q07t : SPat := ⟨[.agg [.vals [.int .i64], .ints .u8 8, .ints .u8 8]], [[.intsV .u8], [.vals [.sliceV 0 0 0 1 false, .int .i64, .int .u64]]]⟩
theorem q07u {α : Type} (N h0_n : Nat) (h0 : NI) (h1_0_n h1_0_l h1_0_c : Nat) (h1_1 h1_2 : Int) (K : AV -> Heap -> Option α) :
    callK Try.prog (q07q α N) 1 103 1 (buildS q07s [.n h0_n, .f h0, .n h1_0_n, .n h1_0_l, .n h1_0_c, .i h1_1, .i h1_2]).t (buildS q07s [.n h0_n, .f h0, .n h1_0_n, .n h1_0_l, .n h1_0_c, .i h1_1, .i h1_2]).h K = q029 none N h0_n h0 h1_0_n h1_0_l h1_0_c h1_1 h1_2 (fun r_0_ r_1_ r_2_ h1_1_ h1_2_ => retK (buildS q07t [.i r_0_, .f r_1_, .f r_2_, .n h0_n, .f h0, .n h1_0_n, .n h1_0_l, .n h1_0_c, .i h1_1_, .i h1_2_]) K) := by kernel_rfl
def q07v (α : Type) (N : Nat) : Env α := (q07q α N).addFun 103 false 1 q07s (fun l K => match l with
    | [.n h0_n, .f h0, .n h1_0_n, .n h1_0_l, .n h1_0_c, .i h1_1, .i h1_2] => q029 none N h0_n h0 h1_0_n h1_0_l h1_0_c h1_1 h1_2 (fun r_0_ r_1_ r_2_ h1_1_ h1_2_ => retK (buildS q07t [.i r_0_, .f r_1_, .f r_2_, .n h0_n, .f h0, .n h1_0_n, .n h1_0_l, .n h1_0_c, .i h1_1_, .i h1_2_]) K)
    | _ => none)
theorem q07w {α : Type} (N : Nat) : EnvOk Try.prog (q07v α N) := (q07r N).addFun q03v q03w (d := 1) fun l K r h => by
  split at h
  · exact (q07u N _ _ _ _ _ _ _ K).trans h
  · cases h
def q07x : SPat := ⟨[.sliceV 0 0 0 1 false], [[.intsV .u8]]⟩
def q07y : SPat := ⟨[.agg [.vals [.int .i64], .ints .u8 8, .ints .u8 8]], [[.intsV .u8]]⟩
theorem q07z {α : Type} (N code_n code_l code_c h0_n : Nat) (h0 : NI) (K : AV -> Heap -> Option α) :
    callK Try.prog (q07v α N) 1 17 1 (buildS q07x [.n code_n, .n code_l, .n code_c, .n h0_n, .f h0]).t (buildS q07x [.n code_n, .n code_l, .n code_c, .n h0_n, .f h0]).h K = q03c none N code_n code_l code_c h0_n h0 (fun r_0_ r_1_ r_2_ => retK (buildS q07y [.i r_0_, .f r_1_, .f r_2_, .n h0_n, .f h0]) K) := by kernel_rfl
def q080 (α : Type) (N : Nat) : Env α := (q07v α N).addFun 17 true 1 q07x (fun l K => match l with
    | [.n code_n, .n code_l, .n code_c, .n h0_n, .f h0] => q03c none N code_n code_l code_c h0_n h0 (fun r_0_ r_1_ r_2_ => retK (buildS q07y [.i r_0_, .f r_1_, .f r_2_, .n h0_n, .f h0]) K)
    | _ => none)
theorem q081 {α : Type} (N : Nat) : EnvOk Try.prog (q080 α N) := (q07w N).addFun q03v q03w (d := 1) fun l K r h => by
  split at h
  · exact (q07z N _ _ _ _ _ K).trans h
  · cases h
def q082 : SPat := ⟨[.int .i64, .int .i64, .int .i64], []⟩
def q083 : SPat := ⟨[.bool], []⟩
theorem q084 {α : Type} (N : Nat) (x low high : Int) (K : AV -> Heap -> Option α) :
    callK Try.prog (q080 α N) 1 117 0 (buildS q082 [.i x, .i low, .i high]).t (buildS q082 [.i x, .i low, .i high]).h K = q001 none N x low high (fun r__ => retK (buildS q083 [.b r__]) K) := by kernel_rfl
def q085 (α : Type) (N : Nat) : Env α := (q080 α N).addFun 117 true 0 q082 (fun l K => match l with
    | [.i x, .i low, .i high] => q001 none N x low high (fun r__ => retK (buildS q083 [.b r__]) K)
    | _ => none)
theorem q086 {α : Type} (N : Nat) : EnvOk Try.prog (q085 α N) := (q081 N).addFun q03v q03w (d := 1) fun l K r h => by
  split at h
  · exact (q084 N _ _ _ K).trans h
  · cases h
def q087 : SPat := ⟨[.agg [.vals [.int .i64], .ints .u8 8, .ints .u8 8]], []⟩
def q088 : SPat := ⟨[.int .i64], []⟩
theorem q089 {α : Type} (N : Nat) (g_0 : Int) (g_1 g_2 : NI) (K : AV -> Heap -> Option α) :
    callK Try.prog (q085 α N) 1 106 0 (buildS q087 [.i g_0, .f g_1, .f g_2]).t (buildS q087 [.i g_0, .f g_1, .f g_2]).h K = q008 none N g_0 g_1 g_2 (retK (buildS q088 [.i g_0]) K) := by kernel_rfl
def q08a (α : Type) (N : Nat) : Env α := (q085 α N).addFun 106 true 0 q087 (fun l K => match l with
    | [.i g_0, .f g_1, .f g_2] => q008 none N g_0 g_1 g_2 (retK (buildS q088 [.i g_0]) K)
    | _ => none)
theorem q08b {α : Type} (N : Nat) : EnvOk Try.prog (q08a α N) := (q086 N).addFun q03v q03w (d := 1) fun l K r h => by
  split at h
  · exact (q089 N _ _ _ K).trans h
  · cases h
def q08c (α : Type) (N : Nat) : Env α := (q08a α N).addAnn 195 3 { head := [1, 5, 8, 9, 10], grow := [], out := [1, 5], ret := [4] }
theorem q08d {α : Type} (N : Nat) : EnvOk Try.prog (q08c α N) := (q08b N).addAnn
def q08e : SPat := ⟨[.undef, .int .i64, .undef, .undef, .undef, .int .i64, .undef, .undef, .slice ⟨⟨0, 0⟩, 1, 0, 8⟩ 8 8 1 true, .intC .i64 8, .int .i64] ++ List.replicate 30 .undef, [[.vals [.int .i64], .ints .u8 8, .ints .u8 8]]⟩
def q08f : SPat := ⟨[.undef, .undef, .undef, .undef, .boolC false] ++ List.replicate 36 .undef, [[.vals [.int .i64], .ints .u8 8, .ints .u8 8]]⟩
def q08g : SPat := ⟨[.undef, .int .i64, .undef, .undef, .undef, .int .i64] ++ List.replicate 35 .undef, [[.vals [.int .i64], .ints .u8 8, .ints .u8 8]]⟩
theorem q08h {α : Type} (N : Nat) (n seen t10 h0_0 : Int) (h0_1 h0_2 : NI) (kn : St -> Option α) (K : AExit -> St -> Option α) :
    roundK Try.prog (q08c α N) 1 1 195 Try.f195 3 1 (buildS q08e [.i n, .i seen, .i t10, .i h0_0, .f h0_1, .f h0_2]) kn K = q009 none n h0_0 h0_1 h0_2 seen t10 (fun seen t10 => kn (buildS q08e [.i n, .i seen, .i t10, .i h0_0, .f h0_1, .f h0_2])) (K .ret (buildS q08f [.i h0_0, .f h0_1, .f h0_2])) (fun seen_ => K (.exit 0) (buildS q08g [.i n, .i seen_, .i h0_0, .f h0_1, .f h0_2])) := by kernel_rfl
theorem q08i {α : Type} (N : Nat) (n h0_0 : Int) (h0_1 h0_2 : NI) (K : AExit -> St -> Option α) : ∀ (m : Nat) (seen t10 : Int),
    loopN (trimSt ((q08c α N).ann 195 3).head ((q08c α N).ann 195 3).grow 1) (bodyK Try.prog (q08c α N) 1 1 195 Try.f195 3) m (buildS q08e [.i n, .i seen, .i t10, .i h0_0, .f h0_1, .f h0_2]) (leaveLoop ((q08c α N).ann 195 3) 1 K) = q00a none n h0_0 h0_1 h0_2 m seen t10 (K .ret (buildS q08f [.i h0_0, .f h0_1, .f h0_2])) (fun seen_ => K (.exit 0) (buildS q08g [.i n, .i seen_, .i h0_0, .f h0_1, .f h0_2])) := by
  intro m
  induction m with
  | zero => intros; rfl
  | succ m ih =>
    intro seen t10
    rw [loopN_round]
    refine (q08h N n seen t10 h0_0 h0_1 h0_2 _ K).trans ?_
    simp only [ih]
    rfl
def q08j (α : Type) (N : Nat) : Env α := (q08c α N).addLoop2 195 3 (loopSum2 ((q08c α N).ann 195 3) 1 q08e (fun l K => match l with
    | [.i n, .i seen, .i t10, .i h0_0, .f h0_1, .f h0_2] => q00a none n h0_0 h0_1 h0_2 N seen t10 (K .ret (buildS q08f [.i h0_0, .f h0_1, .f h0_2])) (fun seen_ => K (.exit 0) (buildS q08g [.i n, .i seen_, .i h0_0, .f h0_1, .f h0_2]))
    | _ => none) ((q08c α N).ls 195 3))
theorem q08k {α : Type} (N : Nat) : EnvOk Try.prog (q08j α N) := (q08d N).addLoop2 Try.func195 (by kernel_rfl) (loopSum_ok q03v q03w (q08d N) Try.func195 (by kernel_rfl) (d := 1) (ro := 1) fun l K r h => by
  split at h
  · exact (q08i N _ _ _ _ K N _ _).trans h
  · cases h)
def q08l : SPat := ⟨[.slice ⟨⟨0, 0⟩, 1, 0, 8⟩ 8 8 1 true, .int .i64], [[.vals [.int .i64], .ints .u8 8, .ints .u8 8]]⟩
def q08m : SPat := ⟨[.bool], [[.vals [.int .i64], .ints .u8 8, .ints .u8 8]]⟩
theorem q08n {α : Type} (N : Nat) (n h0_0 : Int) (h0_1 h0_2 : NI) (K : AV -> Heap -> Option α) :
    callK Try.prog (q08j α N) 1 195 1 (buildS q08l [.i n, .i h0_0, .f h0_1, .f h0_2]).t (buildS q08l [.i n, .i h0_0, .f h0_1, .f h0_2]).h K = q00b none N n h0_0 h0_1 h0_2 (fun r__ => retK (buildS q08m [.b r__, .i h0_0, .f h0_1, .f h0_2]) K) := by kernel_rfl
def q08o (α : Type) (N : Nat) : Env α := (q08j α N).addFun 195 true 1 q08l (fun l K => match l with
    | [.i n, .i h0_0, .f h0_1, .f h0_2] => q00b none N n h0_0 h0_1 h0_2 (fun r__ => retK (buildS q08m [.b r__, .i h0_0, .f h0_1, .f h0_2]) K)
    | _ => none)
theorem q08p {α : Type} (N : Nat) : EnvOk Try.prog (q08o α N) := (q08k N).addFun q03v q03w (d := 1) fun l K r h => by
  split at h
  · exact (q08n N _ _ _ _ K).trans h
  · cases h
def q08q : SPat := ⟨[.undef, .int .i64, .undef, .undef, .undef, .int .i64, .undef, .undef, .slice ⟨⟨0, 0⟩, 2, 0, 8⟩ 8 8 1 true, .intC .i64 8, .int .i64] ++ List.replicate 30 .undef, [[.vals [.int .i64], .ints .u8 8, .ints .u8 8]]⟩
def q08r : SPat := ⟨[.undef, .undef, .undef, .undef, .boolC false] ++ List.replicate 36 .undef, [[.vals [.int .i64], .ints .u8 8, .ints .u8 8]]⟩
def q08s : SPat := ⟨[.undef, .int .i64, .undef, .undef, .undef, .int .i64] ++ List.replicate 35 .undef, [[.vals [.int .i64], .ints .u8 8, .ints .u8 8]]⟩
theorem q08t {α : Type} (N : Nat) (n seen t10 h0_0 : Int) (h0_1 h0_2 : NI) (kn : St -> Option α) (K : AExit -> St -> Option α) :
    roundK Try.prog (q08o α N) 1 1 195 Try.f195 3 1 (buildS q08q [.i n, .i seen, .i t10, .i h0_0, .f h0_1, .f h0_2]) kn K = q00c none n h0_0 h0_1 h0_2 seen t10 (fun seen t10 => kn (buildS q08q [.i n, .i seen, .i t10, .i h0_0, .f h0_1, .f h0_2])) (K .ret (buildS q08r [.i h0_0, .f h0_1, .f h0_2])) (fun seen_ => K (.exit 0) (buildS q08s [.i n, .i seen_, .i h0_0, .f h0_1, .f h0_2])) := by kernel_rfl
theorem q08u {α : Type} (N : Nat) (n h0_0 : Int) (h0_1 h0_2 : NI) (K : AExit -> St -> Option α) : ∀ (m : Nat) (seen t10 : Int),
    loopN (trimSt ((q08o α N).ann 195 3).head ((q08o α N).ann 195 3).grow 1) (bodyK Try.prog (q08o α N) 1 1 195 Try.f195 3) m (buildS q08q [.i n, .i seen, .i t10, .i h0_0, .f h0_1, .f h0_2]) (leaveLoop ((q08o α N).ann 195 3) 1 K) = q00d none n h0_0 h0_1 h0_2 m seen t10 (K .ret (buildS q08r [.i h0_0, .f h0_1, .f h0_2])) (fun seen_ => K (.exit 0) (buildS q08s [.i n, .i seen_, .i h0_0, .f h0_1, .f h0_2])) := by
  intro m
  induction m with
  | zero => intros; rfl
  | succ m ih =>
    intro seen t10
    rw [loopN_round]
    refine (q08t N n seen t10 h0_0 h0_1 h0_2 _ K).trans ?_
    simp only [ih]
    rfl
def q08v (α : Type) (N : Nat) : Env α := (q08o α N).addLoop2 195 3 (loopSum2 ((q08o α N).ann 195 3) 1 q08q (fun l K => match l with
    | [.i n, .i seen, .i t10, .i h0_0, .f h0_1, .f h0_2] => q00d none n h0_0 h0_1 h0_2 N seen t10 (K .ret (buildS q08r [.i h0_0, .f h0_1, .f h0_2])) (fun seen_ => K (.exit 0) (buildS q08s [.i n, .i seen_, .i h0_0, .f h0_1, .f h0_2]))
    | _ => none) ((q08o α N).ls 195 3))
theorem q08w {α : Type} (N : Nat) : EnvOk Try.prog (q08v α N) := (q08p N).addLoop2 Try.func195 (by kernel_rfl) (loopSum_ok q03v q03w (q08p N) Try.func195 (by kernel_rfl) (d := 1) (ro := 1) fun l K r h => by
  split at h
  · exact (q08u N _ _ _ _ K N _ _).trans h
  · cases h)
def q08x : SPat := ⟨[.slice ⟨⟨0, 0⟩, 2, 0, 8⟩ 8 8 1 true, .int .i64], [[.vals [.int .i64], .ints .u8 8, .ints .u8 8]]⟩
def q08y : SPat := ⟨[.bool], [[.vals [.int .i64], .ints .u8 8, .ints .u8 8]]⟩
theorem q08z {α : Type} (N : Nat) (n h0_0 : Int) (h0_1 h0_2 : NI) (K : AV -> Heap -> Option α) :
    callK Try.prog (q08v α N) 1 195 1 (buildS q08x [.i n, .i h0_0, .f h0_1, .f h0_2]).t (buildS q08x [.i n, .i h0_0, .f h0_1, .f h0_2]).h K = q00e none N n h0_0 h0_1 h0_2 (fun r__ => retK (buildS q08y [.b r__, .i h0_0, .f h0_1, .f h0_2]) K) := by kernel_rfl
def q090 (α : Type) (N : Nat) : Env α := (q08v α N).addFun 195 true 1 q08x (fun l K => match l with
    | [.i n, .i h0_0, .f h0_1, .f h0_2] => q00e none N n h0_0 h0_1 h0_2 (fun r__ => retK (buildS q08y [.b r__, .i h0_0, .f h0_1, .f h0_2]) K)
    | _ => none)
theorem q091 {α : Type} (N : Nat) : EnvOk Try.prog (q090 α N) := (q08w N).addFun q03v q03w (d := 1) fun l K r h => by
  split at h
  · exact (q08z N _ _ _ _ K).trans h
  · cases h
def q092 (α : Type) (N : Nat) : Env α := (q090 α N).addAnn 116 4 { head := [1, 25, 26], grow := [], out := [], ret := [2] }
theorem q093 {α : Type} (N : Nat) : EnvOk Try.prog (q092 α N) := (q091 N).addAnn
def q094 : SPat := ⟨[.undef, .ptr ⟨⟨0, 0⟩, 0, 0, 1⟩, .undef, .undef, .undef, .undef, .undef, .undef, .undef, .undef, .undef, .undef, .undef, .undef, .undef, .undef, .undef, .undef, .undef, .undef, .undef, .undef, .undef, .undef, .undef, .int .i64, .int .i64] ++ List.replicate 12 .undef, [[.vals [.int .i64], .ints .u8 8, .ints .u8 8]]⟩
def q095 : SPat := ⟨[.undef, .undef, .boolC false] ++ List.replicate 36 .undef, [[.vals [.int .i64], .ints .u8 8, .ints .u8 8]]⟩
def q096 : SPat := ⟨[] ++ List.replicate 39 .undef, [[.vals [.int .i64], .ints .u8 8, .ints .u8 8]]⟩
theorem q097 {α : Type} (N : Nat) (t25 t26 h0_0 : Int) (h0_1 h0_2 : NI) (kn : St -> Option α) (K : AExit -> St -> Option α) :
    roundK Try.prog (q092 α N) 1 0 116 Try.f116 4 1 (buildS q094 [.i t25, .i t26, .i h0_0, .f h0_1, .f h0_2]) kn K = q00f none t25 h0_0 h0_1 h0_2 t26 (fun t26 => kn (buildS q094 [.i t25, .i t26, .i h0_0, .f h0_1, .f h0_2])) (K .ret (buildS q095 [.i h0_0, .f h0_1, .f h0_2])) (K (.exit 0) (buildS q096 [.i h0_0, .f h0_1, .f h0_2])) := by kernel_rfl
theorem q098 {α : Type} (N : Nat) (t25 h0_0 : Int) (h0_1 h0_2 : NI) (K : AExit -> St -> Option α) : ∀ (m : Nat) (t26 : Int),
    loopN (trimSt ((q092 α N).ann 116 4).head ((q092 α N).ann 116 4).grow 1) (bodyK Try.prog (q092 α N) 1 0 116 Try.f116 4) m (buildS q094 [.i t25, .i t26, .i h0_0, .f h0_1, .f h0_2]) (leaveLoop ((q092 α N).ann 116 4) 1 K) = q00g none t25 h0_0 h0_1 h0_2 m t26 (K .ret (buildS q095 [.i h0_0, .f h0_1, .f h0_2])) (K (.exit 0) (buildS q096 [.i h0_0, .f h0_1, .f h0_2])) := by
  intro m
  induction m with
  | zero => intros; rfl
  | succ m ih =>
    intro t26
    rw [loopN_round]
    refine (q097 N t25 t26 h0_0 h0_1 h0_2 _ K).trans ?_
    simp only [ih]
    rfl
def q099 (α : Type) (N : Nat) : Env α := (q092 α N).addLoop2 116 4 (loopSum2 ((q092 α N).ann 116 4) 0 q094 (fun l K => match l with
    | [.i t25, .i t26, .i h0_0, .f h0_1, .f h0_2] => q00g none t25 h0_0 h0_1 h0_2 N t26 (K .ret (buildS q095 [.i h0_0, .f h0_1, .f h0_2])) (K (.exit 0) (buildS q096 [.i h0_0, .f h0_1, .f h0_2]))
    | _ => none) ((q092 α N).ls 116 4))
theorem q09a {α : Type} (N : Nat) : EnvOk Try.prog (q099 α N) := (q093 N).addLoop2 Try.func116 (by kernel_rfl) (loopSum_ok q03v q03w (q093 N) Try.func116 (by kernel_rfl) (d := 1) (ro := 0) fun l K r h => by
  split at h
  · exact (q098 N _ _ _ _ K N _).trans h
  · cases h)
def q09b : SPat := ⟨[.agg [.vals [.int .i64], .ints .u8 8, .ints .u8 8]], []⟩
def q09c : SPat := ⟨[.bool], []⟩
theorem q09d {α : Type} (N : Nat) (g_0 : Int) (g_1 g_2 : NI) (K : AV -> Heap -> Option α) :
    callK Try.prog (q099 α N) 1 116 0 (buildS q09b [.i g_0, .f g_1, .f g_2]).t (buildS q09b [.i g_0, .f g_1, .f g_2]).h K = q00h none N g_0 g_1 g_2 (fun r__ => retK (buildS q09c [.b r__]) K) := by kernel_rfl
def q09e (α : Type) (N : Nat) : Env α := (q099 α N).addFun 116 true 0 q09b (fun l K => match l with
    | [.i g_0, .f g_1, .f g_2] => q00h none N g_0 g_1 g_2 (fun r__ => retK (buildS q09c [.b r__]) K)
    | _ => none)
theorem q09f {α : Type} (N : Nat) : EnvOk Try.prog (q09e α N) := (q09a N).addFun q03v q03w (d := 1) fun l K r h => by
  split at h
  · exact (q09d N _ _ _ K).trans h
  · cases h
def q09g (α : Type) (N : Nat) : Env α := (q09e α N).addAnn 189 3 { head := [3, 4, 5, 9, 10], grow := [], out := [4, 5], ret := [4] }
theorem q09h {α : Type} (N : Nat) : EnvOk Try.prog (q09g α N) := (q09f N).addAnn
def q09i : SPat := ⟨[.undef, .undef, .undef, .ptr ⟨⟨1, 0⟩, 0, 0, 8⟩, .ptr ⟨⟨2, 0⟩, 0, 0, 8⟩, .ptr ⟨⟨3, 0⟩, 0, 0, 8⟩, .undef, .undef, .undef, .int .i64, .int .i64] ++ List.replicate 9 .undef, [[.vals [.int .i64], .ints .u8 8, .ints .u8 8], [.ints .u8 8], [.ints .i64 8], [.ints .i64 8]]⟩
def q09j : SPat := ⟨[.undef, .undef, .undef, .undef, .ptr ⟨⟨2, 0⟩, 0, 0, 8⟩, .ptr ⟨⟨3, 0⟩, 0, 0, 8⟩] ++ List.replicate 14 .undef, [[.vals [.int .i64], .ints .u8 8, .ints .u8 8], [.ints .u8 8], [.ints .i64 8], [.ints .i64 8]]⟩
theorem q09k {α : Type} (N : Nat) (t9 t10 h0_0 : Int) (h0_1 h0_2 h1 h2 h3 : NI) (kn : St -> Option α) (K : AExit -> St -> Option α) :
    roundK Try.prog (q09g α N) 1 0 189 Try.f189 3 4 (buildS q09i [.i t9, .i t10, .i h0_0, .f h0_1, .f h0_2, .f h1, .f h2, .f h3]) kn K = q00x none t9 h0_0 h0_1 h0_2 h1 h2 t10 h3 (fun t10 h3 => kn (buildS q09i [.i t9, .i t10, .i h0_0, .f h0_1, .f h0_2, .f h1, .f h2, .f h3])) (fun h3_ => K (.exit 0) (buildS q09j [.i h0_0, .f h0_1, .f h0_2, .f h1, .f h2, .f h3_])) := by kernel_rfl
theorem q09l {α : Type} (N : Nat) (t9 h0_0 : Int) (h0_1 h0_2 h1 h2 : NI) (K : AExit -> St -> Option α) : ∀ (m : Nat) (t10 : Int) (h3 : NI),
    loopN (trimSt ((q09g α N).ann 189 3).head ((q09g α N).ann 189 3).grow 4) (bodyK Try.prog (q09g α N) 1 0 189 Try.f189 3) m (buildS q09i [.i t9, .i t10, .i h0_0, .f h0_1, .f h0_2, .f h1, .f h2, .f h3]) (leaveLoop ((q09g α N).ann 189 3) 4 K) = q00y none t9 h0_0 h0_1 h0_2 h1 h2 m t10 h3 (fun h3_ => K (.exit 0) (buildS q09j [.i h0_0, .f h0_1, .f h0_2, .f h1, .f h2, .f h3_])) := by
  intro m
  induction m with
  | zero => intros; rfl
  | succ m ih =>
    intro t10 h3
    rw [loopN_round]
    refine (q09k N t9 t10 h0_0 h0_1 h0_2 h1 h2 h3 _ K).trans ?_
    simp only [ih]
    rfl
def q09m (α : Type) (N : Nat) : Env α := (q09g α N).addLoop2 189 3 (loopSum2 ((q09g α N).ann 189 3) 0 q09i (fun l K => match l with
    | [.i t9, .i t10, .i h0_0, .f h0_1, .f h0_2, .f h1, .f h2, .f h3] => q00y none t9 h0_0 h0_1 h0_2 h1 h2 N t10 h3 (fun h3_ => K (.exit 0) (buildS q09j [.i h0_0, .f h0_1, .f h0_2, .f h1, .f h2, .f h3_]))
    | _ => none) ((q09g α N).ls 189 3))
theorem q09n {α : Type} (N : Nat) : EnvOk Try.prog (q09m α N) := (q09h N).addLoop2 Try.func189 (by kernel_rfl) (loopSum_ok q03v q03w (q09h N) Try.func189 (by kernel_rfl) (d := 1) (ro := 0) fun l K r h => by
  split at h
  · exact (q09l N _ _ _ _ _ _ K N _ _).trans h
  · cases h)
def q09o : SPat := ⟨[.agg [.vals [.int .i64], .ints .u8 8, .ints .u8 8], .agg [.ints .u8 8]], []⟩
def q09p : SPat := ⟨[.agg [.ints .i64 8]], []⟩
theorem q09q {α : Type} (N : Nat) (g_0 : Int) (g_1 g_2 rows : NI) (K : AV -> Heap -> Option α) :
    callK Try.prog (q09m α N) 1 189 0 (buildS q09o [.i g_0, .f g_1, .f g_2, .f rows]).t (buildS q09o [.i g_0, .f g_1, .f g_2, .f rows]).h K = q00z none N g_0 g_1 g_2 rows (fun r__ => retK (buildS q09p [.f r__]) K) := by kernel_rfl
def q09r (α : Type) (N : Nat) : Env α := (q09m α N).addFun 189 true 0 q09o (fun l K => match l with
    | [.i g_0, .f g_1, .f g_2, .f rows] => q00z none N g_0 g_1 g_2 rows (fun r__ => retK (buildS q09p [.f r__]) K)
    | _ => none)
theorem q09s {α : Type} (N : Nat) : EnvOk Try.prog (q09r α N) := (q09n N).addFun q03v q03w (d := 1) fun l K r h => by
  split at h
  · exact (q09q N _ _ _ _ K).trans h
  · cases h
def q09t (α : Type) (N : Nat) : Env α := (q09r α N).addAnn 95 3 { head := [1, 2, 4, 5, 6, 16, 17], grow := [], out := [1, 2, 4, 5], ret := [2, 3] }
theorem q09u {α : Type} (N : Nat) : EnvOk Try.prog (q09t α N) := (q09s N).addAnn
def q09v (α : Type) (N : Nat) : Env α := (q09t α N).addAnn 95 8 { head := [1, 2, 4, 5, 6, 8, 16, 17], grow := [], out := [1, 2, 4, 5, 6, 16, 17], ret := [2, 3] }
theorem q09w {α : Type} (N : Nat) : EnvOk Try.prog (q09v α N) := (q09u N).addAnn
def q09x : SPat := ⟨[.undef, .ptr ⟨⟨0, 0⟩, 0, 0, 1⟩, .ptr ⟨⟨1, 0⟩, 0, 0, 8⟩, .undef, .ptr ⟨⟨2, 0⟩, 0, 0, 8⟩, .int .i64, .ptr ⟨⟨3, 0⟩, 0, 0, 8⟩, .undef, .int .i64, .undef, .undef, .undef, .undef, .undef, .undef, .undef, .int .i64, .int .i64] ++ List.replicate 36 .undef, [[.vals [.int .i64], .ints .u8 8, .ints .u8 8], [.ints .i64 8], [.ints .i64 8], [.ints .i64 8]]⟩
def q09y : SPat := ⟨[.undef, .ptr ⟨⟨0, 0⟩, 0, 0, 1⟩, .ptr ⟨⟨1, 0⟩, 0, 0, 8⟩, .undef, .ptr ⟨⟨2, 0⟩, 0, 0, 8⟩, .int .i64, .ptr ⟨⟨3, 0⟩, 0, 0, 8⟩, .undef, .undef, .undef, .undef, .undef, .undef, .undef, .undef, .undef, .int .i64, .int .i64] ++ List.replicate 36 .undef, [[.vals [.int .i64], .ints .u8 8, .ints .u8 8], [.ints .i64 8], [.ints .i64 8], [.ints .i64 8]]⟩
theorem q09z {α : Type} (N : Nat) (many k t16 t17 h0_0 : Int) (h0_1 h0_2 h1 h2 h3 : NI) (kn : St -> Option α) (K : AExit -> St -> Option α) :
    roundK Try.prog (q09v α N) 1 0 95 Try.f95 8 4 (buildS q09x [.i many, .i k, .i t16, .i t17, .i h0_0, .f h0_1, .f h0_2, .f h1, .f h2, .f h3]) kn K = q01s none many t16 t17 h0_0 h0_1 h0_2 h1 h3 k h2 (fun k h2 => kn (buildS q09x [.i many, .i k, .i t16, .i t17, .i h0_0, .f h0_1, .f h0_2, .f h1, .f h2, .f h3])) (fun h2_ => K (.exit 2) (buildS q09y [.i many, .i t16, .i t17, .i h0_0, .f h0_1, .f h0_2, .f h1, .f h2_, .f h3])) := by kernel_rfl
theorem q0a0 {α : Type} (N : Nat) (many t16 t17 h0_0 : Int) (h0_1 h0_2 h1 h3 : NI) (K : AExit -> St -> Option α) : ∀ (m : Nat) (k : Int) (h2 : NI),
    loopN (trimSt ((q09v α N).ann 95 8).head ((q09v α N).ann 95 8).grow 4) (bodyK Try.prog (q09v α N) 1 0 95 Try.f95 8) m (buildS q09x [.i many, .i k, .i t16, .i t17, .i h0_0, .f h0_1, .f h0_2, .f h1, .f h2, .f h3]) (leaveLoop ((q09v α N).ann 95 8) 4 K) = q01t none many t16 t17 h0_0 h0_1 h0_2 h1 h3 m k h2 (fun h2_ => K (.exit 2) (buildS q09y [.i many, .i t16, .i t17, .i h0_0, .f h0_1, .f h0_2, .f h1, .f h2_, .f h3])) := by
  intro m
  induction m with
  | zero => intros; rfl
  | succ m ih =>
    intro k h2
    rw [loopN_round]
    refine (q09z N many k t16 t17 h0_0 h0_1 h0_2 h1 h2 h3 _ K).trans ?_
    simp only [ih]
    rfl
def q0a1 (α : Type) (N : Nat) : Env α := (q09v α N).addLoop2 95 8 (loopSum2 ((q09v α N).ann 95 8) 0 q09x (fun l K => match l with
    | [.i many, .i k, .i t16, .i t17, .i h0_0, .f h0_1, .f h0_2, .f h1, .f h2, .f h3] => q01t none many t16 t17 h0_0 h0_1 h0_2 h1 h3 N k h2 (fun h2_ => K (.exit 2) (buildS q09y [.i many, .i t16, .i t17, .i h0_0, .f h0_1, .f h0_2, .f h1, .f h2_, .f h3]))
    | _ => none) ((q09v α N).ls 95 8))
theorem q0a2 {α : Type} (N : Nat) : EnvOk Try.prog (q0a1 α N) := (q09w N).addLoop2 Try.func95 (by kernel_rfl) (loopSum_ok q03v q03w (q09w N) Try.func95 (by kernel_rfl) (d := 1) (ro := 0) fun l K r h => by
  split at h
  · exact (q0a0 N _ _ _ _ _ _ _ _ K N _ _).trans h
  · cases h)
def q0a3 : SPat := ⟨[.undef, .ptr ⟨⟨0, 0⟩, 0, 0, 1⟩, .ptr ⟨⟨1, 0⟩, 0, 0, 8⟩, .undef, .ptr ⟨⟨2, 0⟩, 0, 0, 8⟩, .int .i64, .ptr ⟨⟨3, 0⟩, 0, 0, 8⟩, .undef, .undef, .undef, .undef, .undef, .undef, .undef, .undef, .undef, .int .i64, .int .i64] ++ List.replicate 36 .undef, [[.vals [.int .i64], .ints .u8 8, .ints .u8 8], [.ints .i64 8], [.ints .i64 8], [.ints .i64 8]]⟩
def q0a4 : SPat := ⟨[.undef, .ptr ⟨⟨0, 0⟩, 0, 0, 1⟩, .ptr ⟨⟨1, 0⟩, 0, 0, 8⟩, .undef, .ptr ⟨⟨2, 0⟩, 0, 0, 8⟩, .int .i64] ++ List.replicate 48 .undef, [[.vals [.int .i64], .ints .u8 8, .ints .u8 8], [.ints .i64 8], [.ints .i64 8], [.ints .i64 8]]⟩
theorem q0a5 {α : Type} (N : Nat) (many t16 t17 h0_0 : Int) (h0_1 h0_2 h1 h2 h3 : NI) (kn : St -> Option α) (K : AExit -> St -> Option α) :
    roundK Try.prog (q0a1 α N) 1 0 95 Try.f95 3 4 (buildS q0a3 [.i many, .i t16, .i t17, .i h0_0, .f h0_1, .f h0_2, .f h1, .f h2, .f h3]) kn K = q01u none N t16 h0_0 h0_1 h0_2 h1 h3 many t17 h2 (fun many t17 h2 => kn (buildS q0a3 [.i many, .i t16, .i t17, .i h0_0, .f h0_1, .f h0_2, .f h1, .f h2, .f h3])) (fun many_ h2_ => K (.exit 0) (buildS q0a4 [.i many_, .i h0_0, .f h0_1, .f h0_2, .f h1, .f h2_, .f h3])) := by kernel_rfl
theorem q0a6 {α : Type} (N : Nat) (t16 h0_0 : Int) (h0_1 h0_2 h1 h3 : NI) (K : AExit -> St -> Option α) : ∀ (m : Nat) (many t17 : Int) (h2 : NI),
    loopN (trimSt ((q0a1 α N).ann 95 3).head ((q0a1 α N).ann 95 3).grow 4) (bodyK Try.prog (q0a1 α N) 1 0 95 Try.f95 3) m (buildS q0a3 [.i many, .i t16, .i t17, .i h0_0, .f h0_1, .f h0_2, .f h1, .f h2, .f h3]) (leaveLoop ((q0a1 α N).ann 95 3) 4 K) = q01v none N t16 h0_0 h0_1 h0_2 h1 h3 m many t17 h2 (fun many_ h2_ => K (.exit 0) (buildS q0a4 [.i many_, .i h0_0, .f h0_1, .f h0_2, .f h1, .f h2_, .f h3])) := by
  intro m
  induction m with
  | zero => intros; rfl
  | succ m ih =>
    intro many t17 h2
    rw [loopN_round]
    refine (q0a5 N many t16 t17 h0_0 h0_1 h0_2 h1 h2 h3 _ K).trans ?_
    simp only [ih]
    rfl
def q0a7 (α : Type) (N : Nat) : Env α := (q0a1 α N).addLoop2 95 3 (loopSum2 ((q0a1 α N).ann 95 3) 0 q0a3 (fun l K => match l with
    | [.i many, .i t16, .i t17, .i h0_0, .f h0_1, .f h0_2, .f h1, .f h2, .f h3] => q01v none N t16 h0_0 h0_1 h0_2 h1 h3 N many t17 h2 (fun many_ h2_ => K (.exit 0) (buildS q0a4 [.i many_, .i h0_0, .f h0_1, .f h0_2, .f h1, .f h2_, .f h3]))
    | _ => none) ((q0a1 α N).ls 95 3))
theorem q0a8 {α : Type} (N : Nat) : EnvOk Try.prog (q0a7 α N) := (q0a2 N).addLoop2 Try.func95 (by kernel_rfl) (loopSum_ok q03v q03w (q0a2 N) Try.func95 (by kernel_rfl) (d := 1) (ro := 0) fun l K r h => by
  split at h
  · exact (q0a6 N _ _ _ _ _ _ K N _ _ _).trans h
  · cases h)
def q0a9 (α : Type) (N : Nat) : Env α := (q0a7 α N).addAnn 95 13 { head := [2, 4, 5, 42, 43], grow := [], out := [2, 4, 5], ret := [2, 3] }
theorem q0aa {α : Type} (N : Nat) : EnvOk Try.prog (q0a9 α N) := (q0a8 N).addAnn
def q0ab : SPat := ⟨[.undef, .undef, .ptr ⟨⟨1, 0⟩, 0, 0, 8⟩, .undef, .ptr ⟨⟨2, 0⟩, 0, 0, 8⟩, .int .i64, .undef, .undef, .undef, .undef, .undef, .undef, .undef, .undef, .undef, .undef, .undef, .undef, .undef, .undef, .undef, .undef, .undef, .undef, .undef, .undef, .undef, .undef, .undef, .undef, .undef, .undef, .undef, .undef, .undef, .undef, .undef, .undef, .undef, .undef, .undef, .undef, .int .i64, .int .i64] ++ List.replicate 10 .undef, [[.vals [.int .i64], .ints .u8 8, .ints .u8 8], [.ints .i64 8], [.ints .i64 8], [.ints .i64 8]]⟩
def q0ac : SPat := ⟨[.undef, .undef, .ptr ⟨⟨1, 0⟩, 0, 0, 8⟩, .undef, .ptr ⟨⟨2, 0⟩, 0, 0, 8⟩, .int .i64] ++ List.replicate 48 .undef, [[.vals [.int .i64], .ints .u8 8, .ints .u8 8], [.ints .i64 8], [.ints .i64 8], [.ints .i64 8]]⟩
theorem q0ad {α : Type} (N : Nat) (many t42 t43 h0_0 : Int) (h0_1 h0_2 h1 h2 h3 : NI) (kn : St -> Option α) (K : AExit -> St -> Option α) :
    roundK Try.prog (q0a9 α N) 1 0 95 Try.f95 13 4 (buildS q0ab [.i many, .i t42, .i t43, .i h0_0, .f h0_1, .f h0_2, .f h1, .f h2, .f h3]) kn K = q01w none many t42 h0_0 h0_1 h0_2 h1 h3 t43 h2 (fun t43 h2 => kn (buildS q0ab [.i many, .i t42, .i t43, .i h0_0, .f h0_1, .f h0_2, .f h1, .f h2, .f h3])) (fun h2_ => K (.exit 4) (buildS q0ac [.i many, .i h0_0, .f h0_1, .f h0_2, .f h1, .f h2_, .f h3])) := by kernel_rfl
theorem q0ae {α : Type} (N : Nat) (many t42 h0_0 : Int) (h0_1 h0_2 h1 h3 : NI) (K : AExit -> St -> Option α) : ∀ (m : Nat) (t43 : Int) (h2 : NI),
    loopN (trimSt ((q0a9 α N).ann 95 13).head ((q0a9 α N).ann 95 13).grow 4) (bodyK Try.prog (q0a9 α N) 1 0 95 Try.f95 13) m (buildS q0ab [.i many, .i t42, .i t43, .i h0_0, .f h0_1, .f h0_2, .f h1, .f h2, .f h3]) (leaveLoop ((q0a9 α N).ann 95 13) 4 K) = q01x none many t42 h0_0 h0_1 h0_2 h1 h3 m t43 h2 (fun h2_ => K (.exit 4) (buildS q0ac [.i many, .i h0_0, .f h0_1, .f h0_2, .f h1, .f h2_, .f h3])) := by
  intro m
  induction m with
  | zero => intros; rfl
  | succ m ih =>
    intro t43 h2
    rw [loopN_round]
    refine (q0ad N many t42 t43 h0_0 h0_1 h0_2 h1 h2 h3 _ K).trans ?_
    simp only [ih]
    rfl
def q0af (α : Type) (N : Nat) : Env α := (q0a9 α N).addLoop2 95 13 (loopSum2 ((q0a9 α N).ann 95 13) 0 q0ab (fun l K => match l with
    | [.i many, .i t42, .i t43, .i h0_0, .f h0_1, .f h0_2, .f h1, .f h2, .f h3] => q01x none many t42 h0_0 h0_1 h0_2 h1 h3 N t43 h2 (fun h2_ => K (.exit 4) (buildS q0ac [.i many, .i h0_0, .f h0_1, .f h0_2, .f h1, .f h2_, .f h3]))
    | _ => none) ((q0a9 α N).ls 95 13))
theorem q0ag {α : Type} (N : Nat) : EnvOk Try.prog (q0af α N) := (q0aa N).addLoop2 Try.func95 (by kernel_rfl) (loopSum_ok q03v q03w (q0aa N) Try.func95 (by kernel_rfl) (d := 1) (ro := 0) fun l K r h => by
  split at h
  · exact (q0ae N _ _ _ _ _ _ _ K N _ _).trans h
  · cases h)
def q0ah : SPat := ⟨[.agg [.vals [.int .i64], .ints .u8 8, .ints .u8 8]], []⟩
def q0ai : SPat := ⟨[.tuple [.agg [.ints .i64 8], .int .i64]], []⟩
theorem q0aj {α : Type} (N : Nat) (g_0 : Int) (g_1 g_2 : NI) (K : AV -> Heap -> Option α) :
    callK Try.prog (q0af α N) 1 95 0 (buildS q0ah [.i g_0, .f g_1, .f g_2]).t (buildS q0ah [.i g_0, .f g_1, .f g_2]).h K = q01y none N g_0 g_1 g_2 (fun r_0_ r_1_ => retK (buildS q0ai [.f r_0_, .i r_1_]) K) := by kernel_rfl
def q0ak (α : Type) (N : Nat) : Env α := (q0af α N).addFun 95 true 0 q0ah (fun l K => match l with
    | [.i g_0, .f g_1, .f g_2] => q01y none N g_0 g_1 g_2 (fun r_0_ r_1_ => retK (buildS q0ai [.f r_0_, .i r_1_]) K)
    | _ => none)
theorem q0al {α : Type} (N : Nat) : EnvOk Try.prog (q0ak α N) := (q0ag N).addFun q03v q03w (d := 1) fun l K r h => by
  split at h
  · exact (q0aj N _ _ _ K).trans h
  · cases h
def q0am (α : Type) (N : Nat) : Env α := (q0ak α N).addAnn 105 4 { head := [3, 5, 15, 16], grow := [], out := [5], ret := [2] }
theorem q0an {α : Type} (N : Nat) : EnvOk Try.prog (q0am α N) := (q0al N).addAnn
def q0ao : SPat := ⟨[.undef, .undef, .undef, .ptr ⟨⟨1, 0⟩, 0, 0, 8⟩, .undef, .sliceV 3 0 0 1 true, .undef, .undef, .undef, .undef, .undef, .undef, .undef, .undef, .undef, .int .i64, .int .i64] ++ List.replicate 18 .undef, [[.vals [.int .i64], .ints .u8 8, .ints .u8 8], [.ints .i64 8], [.pool .i64], [.hdr 2]]⟩
def q0ap : SPat := ⟨[.undef, .undef, .undef, .undef, .undef, .sliceV 3 0 0 1 true] ++ List.replicate 29 .undef, [[.vals [.int .i64], .ints .u8 8, .ints .u8 8], [.ints .i64 8], [.pool .i64], [.hdr 2]]⟩
theorem q0aq {α : Type} (N out_n out_l out_c : Nat) (t15 t16 h0_0 : Int) (h0_1 h0_2 h1 : NI) (h2 : List (List Int)) (h3 : List (Nat × Nat)) (kn : St -> Option α) (K : AExit -> St -> Option α) :
    roundK Try.prog (q0am α N) 1 0 105 Try.f105 4 4 (buildS q0ao [.n out_n, .n out_l, .n out_c, .i t15, .i t16, .i h0_0, .f h0_1, .f h0_2, .f h1, .r h2, .p h3]) kn K = q02n none out_n out_l out_c t15 h0_0 h0_1 h0_2 h1 t16 h2 h3 (fun t16 h2 h3 => kn (buildS q0ao [.n out_n, .n out_l, .n out_c, .i t15, .i t16, .i h0_0, .f h0_1, .f h0_2, .f h1, .r h2, .p h3])) (fun h2_ h3_ => K (.exit 0) (buildS q0ap [.n out_n, .n out_l, .n out_c, .i h0_0, .f h0_1, .f h0_2, .f h1, .r h2_, .p h3_])) := by kernel_rfl
theorem q0ar {α : Type} (N out_n out_l out_c : Nat) (t15 h0_0 : Int) (h0_1 h0_2 h1 : NI) (K : AExit -> St -> Option α) : ∀ (m : Nat) (t16 : Int) (h2 : List (List Int)) (h3 : List (Nat × Nat)),
    loopN (trimSt ((q0am α N).ann 105 4).head ((q0am α N).ann 105 4).grow 4) (bodyK Try.prog (q0am α N) 1 0 105 Try.f105 4) m (buildS q0ao [.n out_n, .n out_l, .n out_c, .i t15, .i t16, .i h0_0, .f h0_1, .f h0_2, .f h1, .r h2, .p h3]) (leaveLoop ((q0am α N).ann 105 4) 4 K) = q02o none out_n out_l out_c t15 h0_0 h0_1 h0_2 h1 m t16 h2 h3 (fun h2_ h3_ => K (.exit 0) (buildS q0ap [.n out_n, .n out_l, .n out_c, .i h0_0, .f h0_1, .f h0_2, .f h1, .r h2_, .p h3_])) := by
  intro m
  induction m with
  | zero => intros; rfl
  | succ m ih =>
    intro t16 h2 h3
    rw [loopN_round]
    refine (q0aq N out_n out_l out_c t15 t16 h0_0 h0_1 h0_2 h1 h2 h3 _ K).trans ?_
    simp only [ih]
    rfl
def q0as (α : Type) (N : Nat) : Env α := (q0am α N).addLoop2 105 4 (loopSum2 ((q0am α N).ann 105 4) 0 q0ao (fun l K => match l with
    | [.n out_n, .n out_l, .n out_c, .i t15, .i t16, .i h0_0, .f h0_1, .f h0_2, .f h1, .r h2, .p h3] => q02o none out_n out_l out_c t15 h0_0 h0_1 h0_2 h1 N t16 h2 h3 (fun h2_ h3_ => K (.exit 0) (buildS q0ap [.n out_n, .n out_l, .n out_c, .i h0_0, .f h0_1, .f h0_2, .f h1, .r h2_, .p h3_]))
    | _ => none) ((q0am α N).ls 105 4))
theorem q0at {α : Type} (N : Nat) : EnvOk Try.prog (q0as α N) := (q0an N).addLoop2 Try.func105 (by kernel_rfl) (loopSum_ok q03v q03w (q0an N) Try.func105 (by kernel_rfl) (d := 1) (ro := 0) fun l K r h => by
  split at h
  · exact (q0ar N _ _ _ _ _ _ _ _ K N _ _ _).trans h
  · cases h)
def q0au : SPat := ⟨[.agg [.vals [.int .i64], .ints .u8 8, .ints .u8 8]], []⟩
def q0av : SPat := ⟨[.sliceV 0 0 0 1 true], [[.hdr 1], [.pool .i64]]⟩
theorem q0aw {α : Type} (N : Nat) (g_0 : Int) (g_1 g_2 : NI) (K : AV -> Heap -> Option α) :
    callK Try.prog (q0as α N) 1 105 0 (buildS q0au [.i g_0, .f g_1, .f g_2]).t (buildS q0au [.i g_0, .f g_1, .f g_2]).h K = q02p none N g_0 g_1 g_2 (fun r_n_ r_l_ r_c_ h0_ h1_ => retK (buildS q0av [.n r_n_, .n r_l_, .n r_c_, .p h0_, .r h1_]) K) := by kernel_rfl
def q0ax (α : Type) (N : Nat) : Env α := (q0as α N).addFun 105 true 0 q0au (fun l K => match l with
    | [.i g_0, .f g_1, .f g_2] => q02p none N g_0 g_1 g_2 (fun r_n_ r_l_ r_c_ h0_ h1_ => retK (buildS q0av [.n r_n_, .n r_l_, .n r_c_, .p h0_, .r h1_]) K)
    | _ => none)
theorem q0ay {α : Type} (N : Nat) : EnvOk Try.prog (q0ax α N) := (q0at N).addFun q03v q03w (d := 1) fun l K r h => by
  split at h
  · exact (q0aw N _ _ _ K).trans h
  · cases h
def q0az : SPat := ⟨[.agg [.vals [.int .i64], .ints .u8 8, .ints .u8 8], .func 105 []], []⟩
def q0b0 : SPat := ⟨[.tuple [.nils, .int .i64]], []⟩
def q0b1 : SPat := ⟨[.tuple [.sliceV 0 0 0 1 true, .int .i64]], [[.hdr 1], [.pool .i64]]⟩
theorem q0b2 {α : Type} (N : Nat) (g_0 : Int) (g_1 g_2 : NI) (K : AV -> Heap -> Option α) :
    callK Try.prog (q0ax α N) 1 93 0 (buildS q0az [.i g_0, .f g_1, .f g_2]).t (buildS q0az [.i g_0, .f g_1, .f g_2]).h K = q02q none N g_0 g_1 g_2 (fun r_1_ => retK (buildS q0b0 [.i r_1_]) K) (fun r_0_n_ r_0_l_ r_0_c_ r_1_ h0_ h1_ => retK (buildS q0b1 [.n r_0_n_, .n r_0_l_, .n r_0_c_, .i r_1_, .p h0_, .r h1_]) K) := by kernel_rfl
def q0b3 (α : Type) (N : Nat) : Env α := (q0ax α N).addFun 93 true 0 q0az (fun l K => match l with
    | [.i g_0, .f g_1, .f g_2] => q02q none N g_0 g_1 g_2 (fun r_1_ => retK (buildS q0b0 [.i r_1_]) K) (fun r_0_n_ r_0_l_ r_0_c_ r_1_ h0_ h1_ => retK (buildS q0b1 [.n r_0_n_, .n r_0_l_, .n r_0_c_, .i r_1_, .p h0_, .r h1_]) K)
    | _ => none)
theorem q0b4 {α : Type} (N : Nat) : EnvOk Try.prog (q0b3 α N) := (q0ay N).addFun q03v q03w (d := 1) fun l K r h => by
  split at h
  · exact (q0b2 N _ _ _ K).trans h
  · cases h
def q0b5 : SPat := ⟨[.agg [.vals [.int .i64], .ints .u8 8, .ints .u8 8]], []⟩
def q0b6 : SPat := ⟨[.tuple [.nils, .int .i64]], []⟩
def q0b7 : SPat := ⟨[.tuple [.sliceV 0 0 0 1 true, .int .i64]], [[.hdr 1], [.pool .i64]]⟩
theorem q0b8 {α : Type} (N : Nat) (g_0 : Int) (g_1 g_2 : NI) (K : AV -> Heap -> Option α) :
    callK Try.prog (q0b3 α N) 1 18 0 (buildS q0b5 [.i g_0, .f g_1, .f g_2]).t (buildS q0b5 [.i g_0, .f g_1, .f g_2]).h K = q02r none N g_0 g_1 g_2 (fun r_1_ => retK (buildS q0b6 [.i r_1_]) K) (fun r_0_n_ r_0_l_ r_0_c_ r_1_ h0_ h1_ => retK (buildS q0b7 [.n r_0_n_, .n r_0_l_, .n r_0_c_, .i r_1_, .p h0_, .r h1_]) K) := by kernel_rfl
def q0b9 (α : Type) (N : Nat) : Env α := (q0b3 α N).addFun 18 true 0 q0b5 (fun l K => match l with
    | [.i g_0, .f g_1, .f g_2] => q02r none N g_0 g_1 g_2 (fun r_1_ => retK (buildS q0b6 [.i r_1_]) K) (fun r_0_n_ r_0_l_ r_0_c_ r_1_ h0_ h1_ => retK (buildS q0b7 [.n r_0_n_, .n r_0_l_, .n r_0_c_, .i r_1_, .p h0_, .r h1_]) K)
    | _ => none)
theorem q0ba {α : Type} (N : Nat) : EnvOk Try.prog (q0b9 α N) := (q0b4 N).addFun q03v q03w (d := 1) fun l K r h => by
  split at h
  · exact (q0b8 N _ _ _ K).trans h
  · cases h
def q0bb (α : Type) (N : Nat) : Env α := (q0b9 α N).addAnn 108 3 { head := [1, 2, 4, 5, 6], grow := [], out := [1, 2, 4, 5], ret := [2, 3] }
theorem q0bc {α : Type} (N : Nat) : EnvOk Try.prog (q0bb α N) := (q0ba N).addAnn
def q0bd : SPat := ⟨[.undef, .ptr ⟨⟨0, 0⟩, 0, 0, 1⟩, .ptr ⟨⟨1, 0⟩, 0, 0, 8⟩, .undef, .ptr ⟨⟨2, 0⟩, 0, 0, 8⟩, .intC .i64 0, .int .i64] ++ List.replicate 34 .undef, [[.vals [.int .i64], .ints .u8 8, .ints .u8 8], [.ints .i64 8], [.ints .i64 8]]⟩
def q0be : SPat := ⟨[.undef, .ptr ⟨⟨0, 0⟩, 0, 0, 1⟩, .ptr ⟨⟨1, 0⟩, 0, 0, 8⟩, .undef, .ptr ⟨⟨2, 0⟩, 0, 0, 8⟩, .intC .i64 0] ++ List.replicate 35 .undef, [[.vals [.int .i64], .ints .u8 8, .ints .u8 8], [.ints .i64 8], [.ints .i64 8]]⟩
theorem q0bf {α : Type} (N : Nat) (i h0_0 : Int) (h0_1 h0_2 h1 h2 : NI) (kn : St -> Option α) (K : AExit -> St -> Option α) :
    roundK Try.prog (q0bb α N) 1 0 108 Try.f108 3 3 (buildS q0bd [.i i, .i h0_0, .f h0_1, .f h0_2, .f h1, .f h2]) kn K = q01k none h0_0 h0_1 h0_2 h1 i h2 (fun i h2 => kn (buildS q0bd [.i i, .i h0_0, .f h0_1, .f h0_2, .f h1, .f h2])) (fun h2_ => K (.exit 0) (buildS q0be [.i h0_0, .f h0_1, .f h0_2, .f h1, .f h2_])) := by kernel_rfl
theorem q0bg {α : Type} (N : Nat) (h0_0 : Int) (h0_1 h0_2 h1 : NI) (K : AExit -> St -> Option α) : ∀ (m : Nat) (i : Int) (h2 : NI),
    loopN (trimSt ((q0bb α N).ann 108 3).head ((q0bb α N).ann 108 3).grow 3) (bodyK Try.prog (q0bb α N) 1 0 108 Try.f108 3) m (buildS q0bd [.i i, .i h0_0, .f h0_1, .f h0_2, .f h1, .f h2]) (leaveLoop ((q0bb α N).ann 108 3) 3 K) = q01l none h0_0 h0_1 h0_2 h1 m i h2 (fun h2_ => K (.exit 0) (buildS q0be [.i h0_0, .f h0_1, .f h0_2, .f h1, .f h2_])) := by
  intro m
  induction m with
  | zero => intros; rfl
  | succ m ih =>
    intro i h2
    rw [loopN_round]
    refine (q0bf N i h0_0 h0_1 h0_2 h1 h2 _ K).trans ?_
    simp only [ih]
    rfl
def q0bh (α : Type) (N : Nat) : Env α := (q0bb α N).addLoop2 108 3 (loopSum2 ((q0bb α N).ann 108 3) 0 q0bd (fun l K => match l with
    | [.i i, .i h0_0, .f h0_1, .f h0_2, .f h1, .f h2] => q01l none h0_0 h0_1 h0_2 h1 N i h2 (fun h2_ => K (.exit 0) (buildS q0be [.i h0_0, .f h0_1, .f h0_2, .f h1, .f h2_]))
    | _ => none) ((q0bb α N).ls 108 3))
theorem q0bi {α : Type} (N : Nat) : EnvOk Try.prog (q0bh α N) := (q0bc N).addLoop2 Try.func108 (by kernel_rfl) (loopSum_ok q03v q03w (q0bc N) Try.func108 (by kernel_rfl) (d := 1) (ro := 0) fun l K r h => by
  split at h
  · exact (q0bg N _ _ _ _ K N _ _).trans h
  · cases h)
def q0bj (α : Type) (N : Nat) : Env α := (q0bh α N).addAnn 108 7 { head := [1, 2, 4, 5, 7], grow := [], out := [2, 4, 5], ret := [2, 3] }
theorem q0bk {α : Type} (N : Nat) : EnvOk Try.prog (q0bj α N) := (q0bi N).addAnn
def q0bl (α : Type) (N : Nat) : Env α := (q0bj α N).addAnn 108 11 { head := [1, 2, 4, 5, 7, 8], grow := [], out := [1, 2, 4, 5, 7], ret := [2, 3] }
theorem q0bm {α : Type} (N : Nat) : EnvOk Try.prog (q0bl α N) := (q0bk N).addAnn
def q0bn (α : Type) (N : Nat) : Env α := (q0bl α N).addAnn 157 2 { head := [1, 2, 3, 7], grow := [], out := [], ret := [6] }
theorem q0bo {α : Type} (N : Nat) : EnvOk Try.prog (q0bn α N) := (q0bm N).addAnn
def q0bp : SPat := ⟨[.undef, .int .i64, .int .i64, .ptr ⟨⟨0, 0⟩, 0, 0, 8⟩, .undef, .undef, .undef, .int .i64] ++ List.replicate 12 .undef, [[.ints .u8 8]]⟩
def q0bq : SPat := ⟨[.undef, .undef, .undef, .undef, .undef, .undef, .int .i64] ++ List.replicate 13 .undef, [[.ints .u8 8]]⟩
def q0br : SPat := ⟨[] ++ List.replicate 20 .undef, [[.ints .u8 8]]⟩
theorem q0bs {α : Type} (N : Nat) (n r_ i : Int) (h0 : NI) (kn : St -> Option α) (K : AExit -> St -> Option α) :
    roundK Try.prog (q0bn α N) 1 0 157 Try.f157 2 1 (buildS q0bp [.i n, .i r_, .i i, .f h0]) kn K = q00u none n r_ h0 i (fun i => kn (buildS q0bp [.i n, .i r_, .i i, .f h0])) (fun t6_ => K .ret (buildS q0bq [.i t6_, .f h0])) (K (.exit 0) (buildS q0br [.f h0])) := by kernel_rfl
theorem q0bt {α : Type} (N : Nat) (n r_ : Int) (h0 : NI) (K : AExit -> St -> Option α) : ∀ (m : Nat) (i : Int),
    loopN (trimSt ((q0bn α N).ann 157 2).head ((q0bn α N).ann 157 2).grow 1) (bodyK Try.prog (q0bn α N) 1 0 157 Try.f157 2) m (buildS q0bp [.i n, .i r_, .i i, .f h0]) (leaveLoop ((q0bn α N).ann 157 2) 1 K) = q00v none n r_ h0 m i (fun t6_ => K .ret (buildS q0bq [.i t6_, .f h0])) (K (.exit 0) (buildS q0br [.f h0])) := by
  intro m
  induction m with
  | zero => intros; rfl
  | succ m ih =>
    intro i
    rw [loopN_round]
    refine (q0bs N n r_ i h0 _ K).trans ?_
    simp only [ih]
    rfl
def q0bu (α : Type) (N : Nat) : Env α := (q0bn α N).addLoop2 157 2 (loopSum2 ((q0bn α N).ann 157 2) 0 q0bp (fun l K => match l with
    | [.i n, .i r_, .i i, .f h0] => q00v none n r_ h0 N i (fun t6_ => K .ret (buildS q0bq [.i t6_, .f h0])) (K (.exit 0) (buildS q0br [.f h0]))
    | _ => none) ((q0bn α N).ls 157 2))
theorem q0bv {α : Type} (N : Nat) : EnvOk Try.prog (q0bu α N) := (q0bo N).addLoop2 Try.func157 (by kernel_rfl) (loopSum_ok q03v q03w (q0bo N) Try.func157 (by kernel_rfl) (d := 1) (ro := 0) fun l K r h => by
  split at h
  · exact (q0bt N _ _ _ K N _).trans h
  · cases h)
def q0bw : SPat := ⟨[.agg [.ints .u8 8], .int .i64, .int .i64], []⟩
def q0bx : SPat := ⟨[.int .i64], []⟩
theorem q0by {α : Type} (N : Nat) (list : NI) (n r_ : Int) (K : AV -> Heap -> Option α) :
    callK Try.prog (q0bu α N) 1 157 0 (buildS q0bw [.f list, .i n, .i r_]).t (buildS q0bw [.f list, .i n, .i r_]).h K = q00w none N list n r_ (fun r__ => retK (buildS q0bx [.i r__]) K) := by kernel_rfl
def q0bz (α : Type) (N : Nat) : Env α := (q0bu α N).addFun 157 true 0 q0bw (fun l K => match l with
    | [.f list, .i n, .i r_] => q00w none N list n r_ (fun r__ => retK (buildS q0bx [.i r__]) K)
    | _ => none)
theorem q0c0 {α : Type} (N : Nat) : EnvOk Try.prog (q0bz α N) := (q0bv N).addFun q03v q03w (d := 1) fun l K r h => by
  split at h
  · exact (q0by N _ _ _ K).trans h
  · cases h
def q0c1 : SPat := ⟨[.agg [.vals [.int .i64], .ints .u8 8, .ints .u8 8], .int .i64], []⟩
def q0c2 : SPat := ⟨[.int .i64], []⟩
theorem q0c3 {α : Type} (N : Nat) (g_0 : Int) (g_1 g_2 : NI) (i : Int) (K : AV -> Heap -> Option α) :
    callK Try.prog (q0bz α N) 1 159 0 (buildS q0c1 [.i g_0, .f g_1, .f g_2, .i i]).t (buildS q0c1 [.i g_0, .f g_1, .f g_2, .i i]).h K = q01m none N g_0 g_1 g_2 i (fun r__ => retK (buildS q0c2 [.i r__]) K) := by kernel_rfl
def q0c4 (α : Type) (N : Nat) : Env α := (q0bz α N).addFun 159 true 0 q0c1 (fun l K => match l with
    | [.i g_0, .f g_1, .f g_2, .i i] => q01m none N g_0 g_1 g_2 i (fun r__ => retK (buildS q0c2 [.i r__]) K)
    | _ => none)
theorem q0c5 {α : Type} (N : Nat) : EnvOk Try.prog (q0c4 α N) := (q0c0 N).addFun q03v q03w (d := 1) fun l K r h => by
  split at h
  · exact (q0c3 N _ _ _ _ K).trans h
  · cases h
def q0c6 : SPat := ⟨[.undef, .ptr ⟨⟨0, 0⟩, 0, 0, 1⟩, .ptr ⟨⟨1, 0⟩, 0, 0, 8⟩, .undef, .ptr ⟨⟨2, 0⟩, 0, 0, 8⟩, .int .i64, .undef, .int .i64, .int .i64] ++ List.replicate 32 .undef, [[.vals [.int .i64], .ints .u8 8, .ints .u8 8], [.ints .i64 8], [.ints .i64 8]]⟩
def q0c7 : SPat := ⟨[.undef, .ptr ⟨⟨0, 0⟩, 0, 0, 1⟩, .ptr ⟨⟨1, 0⟩, 0, 0, 8⟩, .undef, .ptr ⟨⟨2, 0⟩, 0, 0, 8⟩, .int .i64, .undef, .int .i64] ++ List.replicate 33 .undef, [[.vals [.int .i64], .ints .u8 8, .ints .u8 8], [.ints .i64 8], [.ints .i64 8]]⟩
theorem q0c8 {α : Type} (N : Nat) (count i k h0_0 : Int) (h0_1 h0_2 h1 h2 : NI) (kn : St -> Option α) (K : AExit -> St -> Option α) :
    roundK Try.prog (q0c4 α N) 1 0 108 Try.f108 11 3 (buildS q0c6 [.i count, .i i, .i k, .i h0_0, .f h0_1, .f h0_2, .f h1, .f h2]) kn K = q01n none N count i h0_0 h0_1 h0_2 h1 k h2 (fun k h2 => kn (buildS q0c6 [.i count, .i i, .i k, .i h0_0, .f h0_1, .f h0_2, .f h1, .f h2])) (fun h2_ => K (.exit 4) (buildS q0c7 [.i count, .i i, .i h0_0, .f h0_1, .f h0_2, .f h1, .f h2_])) := by kernel_rfl
theorem q0c9 {α : Type} (N : Nat) (count i h0_0 : Int) (h0_1 h0_2 h1 : NI) (K : AExit -> St -> Option α) : ∀ (m : Nat) (k : Int) (h2 : NI),
    loopN (trimSt ((q0c4 α N).ann 108 11).head ((q0c4 α N).ann 108 11).grow 3) (bodyK Try.prog (q0c4 α N) 1 0 108 Try.f108 11) m (buildS q0c6 [.i count, .i i, .i k, .i h0_0, .f h0_1, .f h0_2, .f h1, .f h2]) (leaveLoop ((q0c4 α N).ann 108 11) 3 K) = q01o none N count i h0_0 h0_1 h0_2 h1 m k h2 (fun h2_ => K (.exit 4) (buildS q0c7 [.i count, .i i, .i h0_0, .f h0_1, .f h0_2, .f h1, .f h2_])) := by
  intro m
  induction m with
  | zero => intros; rfl
  | succ m ih =>
    intro k h2
    rw [loopN_round]
    refine (q0c8 N count i k h0_0 h0_1 h0_2 h1 h2 _ K).trans ?_
    simp only [ih]
    rfl
def q0ca (α : Type) (N : Nat) : Env α := (q0c4 α N).addLoop2 108 11 (loopSum2 ((q0c4 α N).ann 108 11) 0 q0c6 (fun l K => match l with
    | [.i count, .i i, .i k, .i h0_0, .f h0_1, .f h0_2, .f h1, .f h2] => q01o none N count i h0_0 h0_1 h0_2 h1 N k h2 (fun h2_ => K (.exit 4) (buildS q0c7 [.i count, .i i, .i h0_0, .f h0_1, .f h0_2, .f h1, .f h2_]))
    | _ => none) ((q0c4 α N).ls 108 11))
theorem q0cb {α : Type} (N : Nat) : EnvOk Try.prog (q0ca α N) := (q0c5 N).addLoop2 Try.func108 (by kernel_rfl) (loopSum_ok q03v q03w (q0c5 N) Try.func108 (by kernel_rfl) (d := 1) (ro := 0) fun l K r h => by
  split at h
  · exact (q0c9 N _ _ _ _ _ _ K N _ _).trans h
  · cases h)
def q0cc : SPat := ⟨[.undef, .ptr ⟨⟨0, 0⟩, 0, 0, 1⟩, .ptr ⟨⟨1, 0⟩, 0, 0, 8⟩, .undef, .ptr ⟨⟨2, 0⟩, 0, 0, 8⟩, .int .i64, .undef, .int .i64] ++ List.replicate 33 .undef, [[.vals [.int .i64], .ints .u8 8, .ints .u8 8], [.ints .i64 8], [.ints .i64 8]]⟩
def q0cd : SPat := ⟨[.undef, .undef, .ptr ⟨⟨1, 0⟩, 0, 0, 8⟩, .undef, .ptr ⟨⟨2, 0⟩, 0, 0, 8⟩, .int .i64] ++ List.replicate 35 .undef, [[.vals [.int .i64], .ints .u8 8, .ints .u8 8], [.ints .i64 8], [.ints .i64 8]]⟩
theorem q0ce {α : Type} (N : Nat) (count i h0_0 : Int) (h0_1 h0_2 h1 h2 : NI) (kn : St -> Option α) (K : AExit -> St -> Option α) :
    roundK Try.prog (q0ca α N) 1 0 108 Try.f108 7 3 (buildS q0cc [.i count, .i i, .i h0_0, .f h0_1, .f h0_2, .f h1, .f h2]) kn K = q01p none N h0_0 h0_1 h0_2 h1 count i h2 (fun count i h2 => kn (buildS q0cc [.i count, .i i, .i h0_0, .f h0_1, .f h0_2, .f h1, .f h2])) (fun count_ h2_ => K (.exit 2) (buildS q0cd [.i count_, .i h0_0, .f h0_1, .f h0_2, .f h1, .f h2_])) := by kernel_rfl
theorem q0cf {α : Type} (N : Nat) (h0_0 : Int) (h0_1 h0_2 h1 : NI) (K : AExit -> St -> Option α) : ∀ (m : Nat) (count i : Int) (h2 : NI),
    loopN (trimSt ((q0ca α N).ann 108 7).head ((q0ca α N).ann 108 7).grow 3) (bodyK Try.prog (q0ca α N) 1 0 108 Try.f108 7) m (buildS q0cc [.i count, .i i, .i h0_0, .f h0_1, .f h0_2, .f h1, .f h2]) (leaveLoop ((q0ca α N).ann 108 7) 3 K) = q01q none N h0_0 h0_1 h0_2 h1 m count i h2 (fun count_ h2_ => K (.exit 2) (buildS q0cd [.i count_, .i h0_0, .f h0_1, .f h0_2, .f h1, .f h2_])) := by
  intro m
  induction m with
  | zero => intros; rfl
  | succ m ih =>
    intro count i h2
    rw [loopN_round]
    refine (q0ce N count i h0_0 h0_1 h0_2 h1 h2 _ K).trans ?_
    simp only [ih]
    rfl
def q0cg (α : Type) (N : Nat) : Env α := (q0ca α N).addLoop2 108 7 (loopSum2 ((q0ca α N).ann 108 7) 0 q0cc (fun l K => match l with
    | [.i count, .i i, .i h0_0, .f h0_1, .f h0_2, .f h1, .f h2] => q01q none N h0_0 h0_1 h0_2 h1 N count i h2 (fun count_ h2_ => K (.exit 2) (buildS q0cd [.i count_, .i h0_0, .f h0_1, .f h0_2, .f h1, .f h2_]))
    | _ => none) ((q0ca α N).ls 108 7))
theorem q0ch {α : Type} (N : Nat) : EnvOk Try.prog (q0cg α N) := (q0cb N).addLoop2 Try.func108 (by kernel_rfl) (loopSum_ok q03v q03w (q0cb N) Try.func108 (by kernel_rfl) (d := 1) (ro := 0) fun l K r h => by
  split at h
  · exact (q0cf N _ _ _ _ K N _ _ _).trans h
  · cases h)
def q0ci : SPat := ⟨[.agg [.vals [.int .i64], .ints .u8 8, .ints .u8 8]], []⟩
def q0cj : SPat := ⟨[.tuple [.agg [.ints .i64 8], .int .i64]], []⟩
theorem q0ck {α : Type} (N : Nat) (g_0 : Int) (g_1 g_2 : NI) (K : AV -> Heap -> Option α) :
    callK Try.prog (q0cg α N) 1 108 0 (buildS q0ci [.i g_0, .f g_1, .f g_2]).t (buildS q0ci [.i g_0, .f g_1, .f g_2]).h K = q01r none N g_0 g_1 g_2 (fun r_0_ r_1_ => retK (buildS q0cj [.f r_0_, .i r_1_]) K) := by kernel_rfl
def q0cl (α : Type) (N : Nat) : Env α := (q0cg α N).addFun 108 true 0 q0ci (fun l K => match l with
    | [.i g_0, .f g_1, .f g_2] => q01r none N g_0 g_1 g_2 (fun r_0_ r_1_ => retK (buildS q0cj [.f r_0_, .i r_1_]) K)
    | _ => none)
theorem q0cm {α : Type} (N : Nat) : EnvOk Try.prog (q0cl α N) := (q0ch N).addFun q03v q03w (d := 1) fun l K r h => by
  split at h
  · exact (q0ck N _ _ _ K).trans h
  · cases h
def q0cn (α : Type) (N : Nat) : Env α := (q0cl α N).addAnn 19 6 { head := [1, 4, 5, 6, 7], grow := [6], out := [6], ret := [2, 3] }
theorem q0co {α : Type} (N : Nat) : EnvOk Try.prog (q0cn α N) := (q0cm N).addAnn
def q0cp (α : Type) (N : Nat) : Env α := (q0cn α N).addAnn 19 10 { head := [1, 4, 5, 6, 7, 8, 9], grow := [8], out := [1, 4, 5, 6, 7, 8], ret := [2, 3] }
theorem q0cq {α : Type} (N : Nat) : EnvOk Try.prog (q0cp α N) := (q0co N).addAnn
def q0cr : SPat := ⟨[.undef, .ptr ⟨⟨0, 0⟩, 0, 0, 1⟩, .undef, .undef, .ptr ⟨⟨1, 0⟩, 0, 0, 8⟩, .int .i64, .sliceV 3 0 0 1 false, .int .i64, .sliceV 4 0 0 1 false, .int .i64] ++ List.replicate 35 .undef, [[.vals [.int .i64], .ints .u8 8, .ints .u8 8], [.ints .i64 8], [.pool .i64], [.hdr 2], [.vec .i64]]⟩
def q0cs : SPat := ⟨[.undef, .ptr ⟨⟨0, 0⟩, 0, 0, 1⟩, .undef, .undef, .ptr ⟨⟨1, 0⟩, 0, 0, 8⟩, .int .i64, .sliceV 3 0 0 1 false, .int .i64, .sliceV 4 0 0 1 false] ++ List.replicate 36 .undef, [[.vals [.int .i64], .ints .u8 8, .ints .u8 8], [.ints .i64 8], [.pool .i64], [.hdr 2], [.vec .i64]]⟩
theorem q0ct {α : Type} (N : Nat) (count : Int) (out_n out_l out_c : Nat) (k : Int) (own_n own_l own_c : Nat) (i h0_0 : Int) (h0_1 h0_2 h1 : NI) (h2 : List (List Int)) (h3 : List (Nat × Nat)) (h4 : List Int) (kn : St -> Option α) (K : AExit -> St -> Option α) :
    roundK Try.prog (q0cp α N) 1 0 19 Try.f19 10 5 (buildS q0cr [.i count, .n out_n, .n out_l, .n out_c, .i k, .n own_n, .n own_l, .n own_c, .i i, .i h0_0, .f h0_1, .f h0_2, .f h1, .r h2, .p h3, .l h4]) kn K = q02s none count out_n out_l out_c k h0_0 h0_1 h0_2 h1 h2 h3 own_n own_l own_c i h4 (fun own_n own_l own_c i h4 => kn (buildS q0cr [.i count, .n out_n, .n out_l, .n out_c, .i k, .n own_n, .n own_l, .n own_c, .i i, .i h0_0, .f h0_1, .f h0_2, .f h1, .r h2, .p h3, .l h4])) (fun own_n_ own_l_ own_c_ h4_ => K (.exit 2) (buildS q0cs [.i count, .n out_n, .n out_l, .n out_c, .i k, .n own_n_, .n own_l_, .n own_c_, .i h0_0, .f h0_1, .f h0_2, .f h1, .r h2, .p h3, .l h4_])) := by kernel_rfl
theorem q0cu {α : Type} (N : Nat) (count : Int) (out_n out_l out_c : Nat) (k h0_0 : Int) (h0_1 h0_2 h1 : NI) (h2 : List (List Int)) (h3 : List (Nat × Nat)) (K : AExit -> St -> Option α) : ∀ (m own_n own_l own_c : Nat) (i : Int) (h4 : List Int),
    loopN (trimSt ((q0cp α N).ann 19 10).head ((q0cp α N).ann 19 10).grow 5) (bodyK Try.prog (q0cp α N) 1 0 19 Try.f19 10) m (buildS q0cr [.i count, .n out_n, .n out_l, .n out_c, .i k, .n own_n, .n own_l, .n own_c, .i i, .i h0_0, .f h0_1, .f h0_2, .f h1, .r h2, .p h3, .l h4]) (leaveLoop ((q0cp α N).ann 19 10) 5 K) = q02t none count out_n out_l out_c k h0_0 h0_1 h0_2 h1 h2 h3 m own_n own_l own_c i h4 (fun own_n_ own_l_ own_c_ h4_ => K (.exit 2) (buildS q0cs [.i count, .n out_n, .n out_l, .n out_c, .i k, .n own_n_, .n own_l_, .n own_c_, .i h0_0, .f h0_1, .f h0_2, .f h1, .r h2, .p h3, .l h4_])) := by
  intro m
  induction m with
  | zero => intros; rfl
  | succ m ih =>
    intro own_n own_l own_c i h4
    rw [loopN_round]
    refine (q0ct N count out_n out_l out_c k own_n own_l own_c i h0_0 h0_1 h0_2 h1 h2 h3 h4 _ K).trans ?_
    simp only [ih]
    rfl
def q0cv (α : Type) (N : Nat) : Env α := (q0cp α N).addLoop2 19 10 (loopSum2 ((q0cp α N).ann 19 10) 0 q0cr (fun l K => match l with
    | [.i count, .n out_n, .n out_l, .n out_c, .i k, .n own_n, .n own_l, .n own_c, .i i, .i h0_0, .f h0_1, .f h0_2, .f h1, .r h2, .p h3, .l h4] => q02t none count out_n out_l out_c k h0_0 h0_1 h0_2 h1 h2 h3 N own_n own_l own_c i h4 (fun own_n_ own_l_ own_c_ h4_ => K (.exit 2) (buildS q0cs [.i count, .n out_n, .n out_l, .n out_c, .i k, .n own_n_, .n own_l_, .n own_c_, .i h0_0, .f h0_1, .f h0_2, .f h1, .r h2, .p h3, .l h4_]))
    | _ => none) ((q0cp α N).ls 19 10))
theorem q0cw {α : Type} (N : Nat) : EnvOk Try.prog (q0cv α N) := (q0cq N).addLoop2 Try.func19 (by kernel_rfl) (loopSum_ok q03v q03w (q0cq N) Try.func19 (by kernel_rfl) (d := 1) (ro := 0) fun l K r h => by
  split at h
  · exact (q0cu N _ _ _ _ _ _ _ _ _ _ _ K N _ _ _ _ _).trans h
  · cases h)
def q0cx : SPat := ⟨[.undef, .ptr ⟨⟨0, 0⟩, 0, 0, 1⟩, .undef, .undef, .ptr ⟨⟨1, 0⟩, 0, 0, 8⟩, .int .i64, .sliceV 3 0 0 1 false, .int .i64] ++ List.replicate 37 .undef, [[.vals [.int .i64], .ints .u8 8, .ints .u8 8], [.ints .i64 8], [.pool .i64], [.hdr 2]]⟩
def q0cy : SPat := ⟨[.undef, .undef, .undef, .undef, .undef, .undef, .sliceV 3 0 0 1 false] ++ List.replicate 38 .undef, [[.vals [.int .i64], .ints .u8 8, .ints .u8 8], [.ints .i64 8], [.pool .i64], [.hdr 2]]⟩
theorem q0cz {α : Type} (N : Nat) (count : Int) (out_n out_l out_c : Nat) (k h0_0 : Int) (h0_1 h0_2 h1 : NI) (h2 : List (List Int)) (h3 : List (Nat × Nat)) (kn : St -> Option α) (K : AExit -> St -> Option α) :
    roundK Try.prog (q0cv α N) 1 0 19 Try.f19 6 4 (buildS q0cx [.i count, .n out_n, .n out_l, .n out_c, .i k, .i h0_0, .f h0_1, .f h0_2, .f h1, .r h2, .p h3]) kn K = q02u none N count h0_0 h0_1 h0_2 h1 out_n out_l out_c k h2 h3 (fun out_n out_l out_c k h2 h3 => kn (buildS q0cx [.i count, .n out_n, .n out_l, .n out_c, .i k, .i h0_0, .f h0_1, .f h0_2, .f h1, .r h2, .p h3])) (fun out_n_ out_l_ out_c_ h2_ h3_ => K (.exit 0) (buildS q0cy [.n out_n_, .n out_l_, .n out_c_, .i h0_0, .f h0_1, .f h0_2, .f h1, .r h2_, .p h3_])) := by kernel_rfl
theorem q0d0 {α : Type} (N : Nat) (count h0_0 : Int) (h0_1 h0_2 h1 : NI) (K : AExit -> St -> Option α) : ∀ (m out_n out_l out_c : Nat) (k : Int) (h2 : List (List Int)) (h3 : List (Nat × Nat)),
    loopN (trimSt ((q0cv α N).ann 19 6).head ((q0cv α N).ann 19 6).grow 4) (bodyK Try.prog (q0cv α N) 1 0 19 Try.f19 6) m (buildS q0cx [.i count, .n out_n, .n out_l, .n out_c, .i k, .i h0_0, .f h0_1, .f h0_2, .f h1, .r h2, .p h3]) (leaveLoop ((q0cv α N).ann 19 6) 4 K) = q02v none N count h0_0 h0_1 h0_2 h1 m out_n out_l out_c k h2 h3 (fun out_n_ out_l_ out_c_ h2_ h3_ => K (.exit 0) (buildS q0cy [.n out_n_, .n out_l_, .n out_c_, .i h0_0, .f h0_1, .f h0_2, .f h1, .r h2_, .p h3_])) := by
  intro m
  induction m with
  | zero => intros; rfl
  | succ m ih =>
    intro out_n out_l out_c k h2 h3
    rw [loopN_round]
    refine (q0cz N count out_n out_l out_c k h0_0 h0_1 h0_2 h1 h2 h3 _ K).trans ?_
    simp only [ih]
    rfl
def q0d1 (α : Type) (N : Nat) : Env α := (q0cv α N).addLoop2 19 6 (loopSum2 ((q0cv α N).ann 19 6) 0 q0cx (fun l K => match l with
    | [.i count, .n out_n, .n out_l, .n out_c, .i k, .i h0_0, .f h0_1, .f h0_2, .f h1, .r h2, .p h3] => q02v none N count h0_0 h0_1 h0_2 h1 N out_n out_l out_c k h2 h3 (fun out_n_ out_l_ out_c_ h2_ h3_ => K (.exit 0) (buildS q0cy [.n out_n_, .n out_l_, .n out_c_, .i h0_0, .f h0_1, .f h0_2, .f h1, .r h2_, .p h3_]))
    | _ => none) ((q0cv α N).ls 19 6))
theorem q0d2 {α : Type} (N : Nat) : EnvOk Try.prog (q0d1 α N) := (q0cw N).addLoop2 Try.func19 (by kernel_rfl) (loopSum_ok q03v q03w (q0cw N) Try.func19 (by kernel_rfl) (d := 1) (ro := 0) fun l K r h => by
  split at h
  · exact (q0d0 N _ _ _ _ _ K N _ _ _ _ _ _).trans h
  · cases h)
def q0d3 : SPat := ⟨[.agg [.vals [.int .i64], .ints .u8 8, .ints .u8 8]], []⟩
def q0d4 : SPat := ⟨[.tuple [.nils, .int .i64]], []⟩
def q0d5 : SPat := ⟨[.tuple [.sliceV 0 0 0 1 false, .int .i64]], [[.hdr 1], [.pool .i64]]⟩
theorem q0d6 {α : Type} (N : Nat) (g_0 : Int) (g_1 g_2 : NI) (K : AV -> Heap -> Option α) :
    callK Try.prog (q0d1 α N) 1 19 0 (buildS q0d3 [.i g_0, .f g_1, .f g_2]).t (buildS q0d3 [.i g_0, .f g_1, .f g_2]).h K = q02w none N g_0 g_1 g_2 (fun r_1_ => retK (buildS q0d4 [.i r_1_]) K) (fun r_0_n_ r_0_l_ r_0_c_ r_1_ h0_ h1_ => retK (buildS q0d5 [.n r_0_n_, .n r_0_l_, .n r_0_c_, .i r_1_, .p h0_, .r h1_]) K) := by kernel_rfl
def q0d7 (α : Type) (N : Nat) : Env α := (q0d1 α N).addFun 19 true 0 q0d3 (fun l K => match l with
    | [.i g_0, .f g_1, .f g_2] => q02w none N g_0 g_1 g_2 (fun r_1_ => retK (buildS q0d4 [.i r_1_]) K) (fun r_0_n_ r_0_l_ r_0_c_ r_1_ h0_ h1_ => retK (buildS q0d5 [.n r_0_n_, .n r_0_l_, .n r_0_c_, .i r_1_, .p h0_, .r h1_]) K)
    | _ => none)
theorem q0d8 {α : Type} (N : Nat) : EnvOk Try.prog (q0d7 α N) := (q0d2 N).addFun q03v q03w (d := 1) fun l K r h => by
  split at h
  · exact (q0d6 N _ _ _ K).trans h
  · cases h
def q0d9 : SPat := ⟨[.agg [.vals [.int .i64], .ints .u8 8, .ints .u8 8]], []⟩
def q0da : SPat := ⟨[.bool], []⟩
theorem q0db {α : Type} (N : Nat) (g_0 : Int) (g_1 g_2 : NI) (K : AV -> Heap -> Option α) :
    callK Try.prog (q0d7 α N) 1 110 0 (buildS q0d9 [.i g_0, .f g_1, .f g_2]).t (buildS q0d9 [.i g_0, .f g_1, .f g_2]).h K = q01z none N g_0 g_1 g_2 (fun r__ => retK (buildS q0da [.b r__]) K) := by kernel_rfl
def q0dc (α : Type) (N : Nat) : Env α := (q0d7 α N).addFun 110 true 0 q0d9 (fun l K => match l with
    | [.i g_0, .f g_1, .f g_2] => q01z none N g_0 g_1 g_2 (fun r__ => retK (buildS q0da [.b r__]) K)
    | _ => none)
theorem q0dd {α : Type} (N : Nat) : EnvOk Try.prog (q0dc α N) := (q0d8 N).addFun q03v q03w (d := 1) fun l K r h => by
  split at h
  · exact (q0db N _ _ _ K).trans h
  · cases h
def q0de : SPat := ⟨[.agg [.vals [.int .i64], .ints .u8 8, .ints .u8 8], .func 110 []], []⟩
def q0df : SPat := ⟨[.tuple [.bool, .int .i64]], []⟩
theorem q0dg {α : Type} (N : Nat) (g_0 : Int) (g_1 g_2 : NI) (K : AV -> Heap -> Option α) :
    callK Try.prog (q0dc α N) 1 109 0 (buildS q0de [.i g_0, .f g_1, .f g_2]).t (buildS q0de [.i g_0, .f g_1, .f g_2]).h K = q02l none N g_0 g_1 g_2 (fun r_0_ r_1_ => retK (buildS q0df [.b r_0_, .i r_1_]) K) := by kernel_rfl
def q0dh (α : Type) (N : Nat) : Env α := (q0dc α N).addFun 109 true 0 q0de (fun l K => match l with
    | [.i g_0, .f g_1, .f g_2] => q02l none N g_0 g_1 g_2 (fun r_0_ r_1_ => retK (buildS q0df [.b r_0_, .i r_1_]) K)
    | _ => none)
theorem q0di {α : Type} (N : Nat) : EnvOk Try.prog (q0dh α N) := (q0dd N).addFun q03v q03w (d := 1) fun l K r h => by
  split at h
  · exact (q0dg N _ _ _ K).trans h
  · cases h
def q0dj : SPat := ⟨[.agg [.vals [.int .i64], .ints .u8 8, .ints .u8 8]], []⟩
def q0dk : SPat := ⟨[.tuple [.bool, .int .i64]], []⟩
theorem q0dl {α : Type} (N : Nat) (g_0 : Int) (g_1 g_2 : NI) (K : AV -> Heap -> Option α) :
    callK Try.prog (q0dh α N) 1 20 0 (buildS q0dj [.i g_0, .f g_1, .f g_2]).t (buildS q0dj [.i g_0, .f g_1, .f g_2]).h K = q02m none N g_0 g_1 g_2 (fun r_0_ r_1_ => retK (buildS q0dk [.b r_0_, .i r_1_]) K) := by kernel_rfl
def q0dm (α : Type) (N : Nat) : Env α := (q0dh α N).addFun 20 true 0 q0dj (fun l K => match l with
    | [.i g_0, .f g_1, .f g_2] => q02m none N g_0 g_1 g_2 (fun r_0_ r_1_ => retK (buildS q0dk [.b r_0_, .i r_1_]) K)
    | _ => none)
theorem q0dn {α : Type} (N : Nat) : EnvOk Try.prog (q0dm α N) := (q0di N).addFun q03v q03w (d := 1) fun l K r h => by
  split at h
  · exact (q0dl N _ _ _ K).trans h
  · cases h
def q0do : SPat := ⟨[.agg [.vals [.int .i64], .ints .u8 8, .ints .u8 8]], []⟩
def q0dp : SPat := ⟨[.tuple [.bool, .int .i64]], []⟩
theorem q0dq {α : Type} (N : Nat) (g_0 : Int) (g_1 g_2 : NI) (K : AV -> Heap -> Option α) :
    callK Try.prog (q0dm α N) 1 21 0 (buildS q0do [.i g_0, .f g_1, .f g_2]).t (buildS q0do [.i g_0, .f g_1, .f g_2]).h K = q02x none N g_0 g_1 g_2 (fun r_0_ r_1_ => retK (buildS q0dp [.b r_0_, .i r_1_]) K) := by kernel_rfl
def q0dr (α : Type) (N : Nat) : Env α := (q0dm α N).addFun 21 true 0 q0do (fun l K => match l with
    | [.i g_0, .f g_1, .f g_2] => q02x none N g_0 g_1 g_2 (fun r_0_ r_1_ => retK (buildS q0dp [.b r_0_, .i r_1_]) K)
    | _ => none)
theorem q0ds {α : Type} (N : Nat) : EnvOk Try.prog (q0dr α N) := (q0dn N).addFun q03v q03w (d := 1) fun l K r h => by
  split at h
  · exact (q0dq N _ _ _ K).trans h
  · cases h
def q0dt (α : Type) (N : Nat) : Env α := (q0dr α N).addAnn 22 4 { head := [0, 1, 5], grow := [], out := [], ret := [4] }
theorem q0du {α : Type} (N : Nat) : EnvOk Try.prog (q0dt α N) := (q0ds N).addAnn
def q0dv : SPat := ⟨[.nils, .nils, .undef, .undef, .undef, .int .i64] ++ List.replicate 21 .undef, []⟩
def q0dw : SPat := ⟨[] ++ List.replicate 27 .undef, []⟩
theorem q0dx {α : Type} (N : Nat) (i : Int) (kn : St -> Option α) (K : AExit -> St -> Option α) :
    roundK Try.prog (q0dt α N) 1 0 22 Try.f22 4 0 (buildS q0dv [.i i]) kn K = q02c none i  (kn (buildS q0dv [.i i])) (K (.exit 0) (buildS q0dw [])) := by kernel_rfl
theorem q0dy {α : Type} (N : Nat) (i : Int) (K : AExit -> St -> Option α) : ∀ (m : Nat),
    loopN (trimSt ((q0dt α N).ann 22 4).head ((q0dt α N).ann 22 4).grow 0) (bodyK Try.prog (q0dt α N) 1 0 22 Try.f22 4) m (buildS q0dv [.i i]) (leaveLoop ((q0dt α N).ann 22 4) 0 K) = q02d none i m  (K (.exit 0) (buildS q0dw [])) := by
  intro m
  induction m with
  | zero => intros; rfl
  | succ m ih =>
    rw [loopN_round]
    refine (q0dx N i _ K).trans ?_
    simp only [ih]
    rfl
def q0dz (α : Type) (N : Nat) : Env α := (q0dt α N).addLoop2 22 4 (loopSum2 ((q0dt α N).ann 22 4) 0 q0dv (fun l K => match l with
    | [.i i] => q02d none i N  (K (.exit 0) (buildS q0dw []))
    | _ => none) ((q0dt α N).ls 22 4))
theorem q0e0 {α : Type} (N : Nat) : EnvOk Try.prog (q0dz α N) := (q0du N).addLoop2 Try.func22 (by kernel_rfl) (loopSum_ok q03v q03w (q0du N) Try.func22 (by kernel_rfl) (d := 1) (ro := 0) fun l K r h => by
  split at h
  · exact (q0dy N _ K N ).trans h
  · cases h)
def q0e1 : SPat := ⟨[.nils, .nils], []⟩
def q0e2 : SPat := ⟨[.bool], []⟩
theorem q0e3 {α : Type} (N : Nat)  (K : AV -> Heap -> Option α) :
    callK Try.prog (q0dz α N) 1 22 0 (buildS q0e1 []).t (buildS q0e1 []).h K = q02e none N  (fun r__ => retK (buildS q0e2 [.b r__]) K) := by kernel_rfl
def q0e4 (α : Type) (N : Nat) : Env α := (q0dz α N).addFun 22 true 0 q0e1 (fun l K => match l with
    | [] => q02e none N  (fun r__ => retK (buildS q0e2 [.b r__]) K)
    | _ => none)
theorem q0e5 {α : Type} (N : Nat) : EnvOk Try.prog (q0e4 α N) := (q0e0 N).addFun q03v q03w (d := 1) fun l K r h => by
  split at h
  · exact (q0e3 N  K).trans h
  · cases h
def q0e6 : SPat := ⟨[.ptr ⟨⟨1, 0⟩, 0, 0, 3⟩, .slice ⟨⟨2, 0⟩, 0, 0, 2⟩ 2 2 1 true], [[.intsV .u8], [.vals [.sliceV 0 0 0 1 false, .int .i64, .int .u64]], [.vec .i64]]⟩
def q0e7 : SPat := ⟨[.int .i64], [[.intsV .u8], [.vals [.sliceV 0 0 0 1 false, .int .i64, .int .u64]], [.vec .i64]]⟩
theorem q0e8 {α : Type} (N h0_n : Nat) (h0 : NI) (h1_0_n h1_0_l h1_0_c : Nat) (h1_1 h1_2 : Int) (h2 : List Int) (K : AV -> Heap -> Option α) :
    callK Try.prog (q0e4 α N) 1 115 1 (buildS q0e6 [.n h0_n, .f h0, .n h1_0_n, .n h1_0_l, .n h1_0_c, .i h1_1, .i h1_2, .l h2]).t (buildS q0e6 [.n h0_n, .f h0, .n h1_0_n, .n h1_0_l, .n h1_0_c, .i h1_1, .i h1_2, .l h2]).h K = q03d none N h0_n h0 h1_0_n h1_0_l h1_0_c h1_1 h1_2 h2 (fun r__ h1_1_ h1_2_ => retK (buildS q0e7 [.i r__, .n h0_n, .f h0, .n h1_0_n, .n h1_0_l, .n h1_0_c, .i h1_1_, .i h1_2_, .l h2]) K) := by kernel_rfl
def q0e9 (α : Type) (N : Nat) : Env α := (q0e4 α N).addFun 115 false 1 q0e6 (fun l K => match l with
    | [.n h0_n, .f h0, .n h1_0_n, .n h1_0_l, .n h1_0_c, .i h1_1, .i h1_2, .l h2] => q03d none N h0_n h0 h1_0_n h1_0_l h1_0_c h1_1 h1_2 h2 (fun r__ h1_1_ h1_2_ => retK (buildS q0e7 [.i r__, .n h0_n, .f h0, .n h1_0_n, .n h1_0_l, .n h1_0_c, .i h1_1_, .i h1_2_, .l h2]) K)
    | _ => none)
theorem q0ea {α : Type} (N : Nat) : EnvOk Try.prog (q0e9 α N) := (q0e5 N).addFun q03v q03w (d := 1) fun l K r h => by
  split at h
  · exact (q0e8 N _ _ _ _ _ _ _ _ K).trans h
  · cases h
def q0eb : SPat := ⟨[.sliceV 0 0 0 1 false], [[.intsV .u8]]⟩
def q0ec : SPat := ⟨[.tuple [.agg [.vals [.int .i64], .ints .u8 8, .ints .u8 8], .int .i64, .int .i64]], [[.intsV .u8]]⟩
theorem q0ed {α : Type} (N code_n code_l code_c h0_n : Nat) (h0 : NI) (K : AV -> Heap -> Option α) :
    callK Try.prog (q0e9 α N) 1 25 1 (buildS q0eb [.n code_n, .n code_l, .n code_c, .n h0_n, .f h0]).t (buildS q0eb [.n code_n, .n code_l, .n code_c, .n h0_n, .f h0]).h K = q03e none N code_n code_l code_c h0_n h0 (fun r_0_0_ r_0_1_ r_0_2_ r_1_ r_2_ => retK (buildS q0ec [.i r_0_0_, .f r_0_1_, .f r_0_2_, .i r_1_, .i r_2_, .n h0_n, .f h0]) K) := by kernel_rfl
def q0ee (α : Type) (N : Nat) : Env α := (q0e9 α N).addFun 25 true 1 q0eb (fun l K => match l with
    | [.n code_n, .n code_l, .n code_c, .n h0_n, .f h0] => q03e none N code_n code_l code_c h0_n h0 (fun r_0_0_ r_0_1_ r_0_2_ r_1_ r_2_ => retK (buildS q0ec [.i r_0_0_, .f r_0_1_, .f r_0_2_, .i r_1_, .i r_2_, .n h0_n, .f h0]) K)
    | _ => none)
theorem q0ef {α : Type} (N : Nat) : EnvOk Try.prog (q0ee α N) := (q0ea N).addFun q03v q03w (d := 1) fun l K r h => by
  split at h
  · exact (q0ed N _ _ _ _ _ K).trans h
  · cases h
def q0eg (α : Type) (N : Nat) : Env α := (q0ee α N).addAnn 162 6 { head := [1, 3, 6, 7, 8, 9, 22, 23], grow := [], out := [6, 7], ret := [6] }
theorem q0eh {α : Type} (N : Nat) : EnvOk Try.prog (q0eg α N) := (q0ef N).addAnn
def q0ei : SPat := ⟨[.int .i64, .int .i64, .ptr ⟨⟨0, 0⟩, 0, 0, 1⟩, .ptr ⟨⟨1, 0⟩, 0, 0, 1⟩, .ptr ⟨⟨2, 0⟩, 0, 0, 1⟩], [[.vals [.int .i64]], [.vals [.int .i64], .ints .u8 8, .ints .u8 8], [.vals [.int .i64]]]⟩
def q0ej : SPat := ⟨[.tuple [.int .i64, .int .i64]], [[.vals [.int .i64]], [.vals [.int .i64], .ints .u8 8, .ints .u8 8], [.vals [.int .i64]]]⟩
theorem q0ek {α : Type} (N : Nat) (i r_ h0 h1_0 : Int) (h1_1 h1_2 : NI) (h2 : Int) (K : AV -> Heap -> Option α) :
    callK Try.prog (q0eg α N) 1 196 3 (buildS q0ei [.i i, .i r_, .i h0, .i h1_0, .f h1_1, .f h1_2, .i h2]).t (buildS q0ei [.i i, .i r_, .i h0, .i h1_0, .f h1_1, .f h1_2, .i h2]).h K = q00m none N i r_ h0 h1_0 h1_1 h1_2 h2 (fun r_0_ r_1_ => retK (buildS q0ej [.i r_0_, .i r_1_, .i h0, .i h1_0, .f h1_1, .f h1_2, .i h2]) K) := by kernel_rfl
def q0el (α : Type) (N : Nat) : Env α := (q0eg α N).addFun 196 true 3 q0ei (fun l K => match l with
    | [.i i, .i r_, .i h0, .i h1_0, .f h1_1, .f h1_2, .i h2] => q00m none N i r_ h0 h1_0 h1_1 h1_2 h2 (fun r_0_ r_1_ => retK (buildS q0ej [.i r_0_, .i r_1_, .i h0, .i h1_0, .f h1_1, .f h1_2, .i h2]) K)
    | _ => none)
theorem q0em {α : Type} (N : Nat) : EnvOk Try.prog (q0el α N) := (q0eh N).addFun q03v q03w (d := 1) fun l K r h => by
  split at h
  · exact (q0ek N _ _ _ _ _ _ _ K).trans h
  · cases h
def q0en : SPat := ⟨[.undef, .func 196 [.ptr ⟨⟨0, 0⟩, 0, 0, 1⟩, .ptr ⟨⟨1, 0⟩, 0, 0, 1⟩, .ptr ⟨⟨2, 0⟩, 0, 0, 1⟩], .undef, .ptr ⟨⟨3, 0⟩, 0, 0, 1⟩, .undef, .undef, .ptr ⟨⟨4, 0⟩, 0, 0, 1⟩, .ptr ⟨⟨5, 0⟩, 0, 0, 1⟩, .ptr ⟨⟨5, 0⟩, 2, 0, 8⟩, .ptr ⟨⟨5, 0⟩, 1, 0, 8⟩, .undef, .undef, .undef, .undef, .undef, .undef, .undef, .undef, .undef, .undef, .undef, .undef, .int .i64, .int .i64] ++ List.replicate 38 .undef, [[.vals [.int .i64]], [.vals [.int .i64], .ints .u8 8, .ints .u8 8], [.vals [.int .i64]], [.vals [.int .i64], .ints .u8 8, .ints .u8 8], [.vals [.int .i64], .ints .u8 8, .ints .u8 8], [.vals [.int .i64], .ints .u8 8, .ints .u8 8]]⟩
def q0eo : SPat := ⟨[.undef, .undef, .undef, .undef, .undef, .undef, .ptr ⟨⟨4, 0⟩, 0, 0, 1⟩, .ptr ⟨⟨5, 0⟩, 0, 0, 1⟩] ++ List.replicate 54 .undef, [[.vals [.int .i64]], [.vals [.int .i64], .ints .u8 8, .ints .u8 8], [.vals [.int .i64]], [.vals [.int .i64], .ints .u8 8, .ints .u8 8], [.vals [.int .i64], .ints .u8 8, .ints .u8 8], [.vals [.int .i64], .ints .u8 8, .ints .u8 8]]⟩
theorem q0ep {α : Type} (N : Nat) (t22 t23 h0 h1_0 : Int) (h1_1 h1_2 : NI) (h2 h3_0 : Int) (h3_1 h3_2 : NI) (h4_0 : Int) (h4_1 h4_2 : NI) (h5_0 : Int) (h5_1 h5_2 : NI) (kn : St -> Option α) (K : AExit -> St -> Option α) :
    roundK Try.prog (q0el α N) 1 3 162 Try.f162 6 6 (buildS q0en [.i t22, .i t23, .i h0, .i h1_0, .f h1_1, .f h1_2, .i h2, .i h3_0, .f h3_1, .f h3_2, .i h4_0, .f h4_1, .f h4_2, .i h5_0, .f h5_1, .f h5_2]) kn K = q00n none N t22 h0 h1_0 h1_1 h1_2 h2 h3_0 h3_1 h3_2 h4_0 h4_1 h4_2 h5_0 t23 h5_1 h5_2 (fun t23 h5_1 h5_2 => kn (buildS q0en [.i t22, .i t23, .i h0, .i h1_0, .f h1_1, .f h1_2, .i h2, .i h3_0, .f h3_1, .f h3_2, .i h4_0, .f h4_1, .f h4_2, .i h5_0, .f h5_1, .f h5_2])) (fun h5_1_ h5_2_ => K (.exit 0) (buildS q0eo [.i h0, .i h1_0, .f h1_1, .f h1_2, .i h2, .i h3_0, .f h3_1, .f h3_2, .i h4_0, .f h4_1, .f h4_2, .i h5_0, .f h5_1_, .f h5_2_])) := by kernel_rfl
theorem q0eq {α : Type} (N : Nat) (t22 h0 h1_0 : Int) (h1_1 h1_2 : NI) (h2 h3_0 : Int) (h3_1 h3_2 : NI) (h4_0 : Int) (h4_1 h4_2 : NI) (h5_0 : Int) (K : AExit -> St -> Option α) : ∀ (m : Nat) (t23 : Int) (h5_1 h5_2 : NI),
    loopN (trimSt ((q0el α N).ann 162 6).head ((q0el α N).ann 162 6).grow 6) (bodyK Try.prog (q0el α N) 1 3 162 Try.f162 6) m (buildS q0en [.i t22, .i t23, .i h0, .i h1_0, .f h1_1, .f h1_2, .i h2, .i h3_0, .f h3_1, .f h3_2, .i h4_0, .f h4_1, .f h4_2, .i h5_0, .f h5_1, .f h5_2]) (leaveLoop ((q0el α N).ann 162 6) 6 K) = q00o none N t22 h0 h1_0 h1_1 h1_2 h2 h3_0 h3_1 h3_2 h4_0 h4_1 h4_2 h5_0 m t23 h5_1 h5_2 (fun h5_1_ h5_2_ => K (.exit 0) (buildS q0eo [.i h0, .i h1_0, .f h1_1, .f h1_2, .i h2, .i h3_0, .f h3_1, .f h3_2, .i h4_0, .f h4_1, .f h4_2, .i h5_0, .f h5_1_, .f h5_2_])) := by
  intro m
  induction m with
  | zero => intros; rfl
  | succ m ih =>
    intro t23 h5_1 h5_2
    rw [loopN_round]
    refine (q0ep N t22 t23 h0 h1_0 h1_1 h1_2 h2 h3_0 h3_1 h3_2 h4_0 h4_1 h4_2 h5_0 h5_1 h5_2 _ K).trans ?_
    simp only [ih]
    rfl
def q0er (α : Type) (N : Nat) : Env α := (q0el α N).addLoop2 162 6 (loopSum2 ((q0el α N).ann 162 6) 3 q0en (fun l K => match l with
    | [.i t22, .i t23, .i h0, .i h1_0, .f h1_1, .f h1_2, .i h2, .i h3_0, .f h3_1, .f h3_2, .i h4_0, .f h4_1, .f h4_2, .i h5_0, .f h5_1, .f h5_2] => q00o none N t22 h0 h1_0 h1_1 h1_2 h2 h3_0 h3_1 h3_2 h4_0 h4_1 h4_2 h5_0 N t23 h5_1 h5_2 (fun h5_1_ h5_2_ => K (.exit 0) (buildS q0eo [.i h0, .i h1_0, .f h1_1, .f h1_2, .i h2, .i h3_0, .f h3_1, .f h3_2, .i h4_0, .f h4_1, .f h4_2, .i h5_0, .f h5_1_, .f h5_2_]))
    | _ => none) ((q0el α N).ls 162 6))
theorem q0es {α : Type} (N : Nat) : EnvOk Try.prog (q0er α N) := (q0em N).addLoop2 Try.func162 (by kernel_rfl) (loopSum_ok q03v q03w (q0em N) Try.func162 (by kernel_rfl) (d := 1) (ro := 3) fun l K r h => by
  split at h
  · exact (q0eq N _ _ _ _ _ _ _ _ _ _ _ _ _ K N _ _ _).trans h
  · cases h)
def q0et : SPat := ⟨[.undef, .func 196 [.ptr ⟨⟨0, 0⟩, 0, 0, 1⟩, .ptr ⟨⟨1, 0⟩, 0, 0, 1⟩, .ptr ⟨⟨2, 0⟩, 0, 0, 1⟩], .undef, .ptr ⟨⟨3, 0⟩, 0, 0, 1⟩, .undef, .undef, .ptr ⟨⟨4, 0⟩, 0, 0, 1⟩, .ptr ⟨⟨5, 0⟩, 0, 0, 1⟩, .ptr ⟨⟨5, 0⟩, 1, 0, 8⟩, .ptr ⟨⟨5, 0⟩, 2, 0, 8⟩, .undef, .undef, .undef, .undef, .undef, .undef, .undef, .undef, .undef, .undef, .undef, .undef, .int .i64, .int .i64] ++ List.replicate 38 .undef, [[.vals [.int .i64]], [.vals [.int .i64], .ints .u8 8, .ints .u8 8], [.vals [.int .i64]], [.vals [.int .i64], .ints .u8 8, .ints .u8 8], [.vals [.int .i64], .ints .u8 8, .ints .u8 8], [.vals [.int .i64], .ints .u8 8, .ints .u8 8]]⟩
def q0eu : SPat := ⟨[.undef, .undef, .undef, .undef, .undef, .undef, .ptr ⟨⟨4, 0⟩, 0, 0, 1⟩, .ptr ⟨⟨5, 0⟩, 0, 0, 1⟩] ++ List.replicate 54 .undef, [[.vals [.int .i64]], [.vals [.int .i64], .ints .u8 8, .ints .u8 8], [.vals [.int .i64]], [.vals [.int .i64], .ints .u8 8, .ints .u8 8], [.vals [.int .i64], .ints .u8 8, .ints .u8 8], [.vals [.int .i64], .ints .u8 8, .ints .u8 8]]⟩
theorem q0ev {α : Type} (N : Nat) (t22 t23 h0 h1_0 : Int) (h1_1 h1_2 : NI) (h2 h3_0 : Int) (h3_1 h3_2 : NI) (h4_0 : Int) (h4_1 h4_2 : NI) (h5_0 : Int) (h5_1 h5_2 : NI) (kn : St -> Option α) (K : AExit -> St -> Option α) :
    roundK Try.prog (q0er α N) 1 3 162 Try.f162 6 6 (buildS q0et [.i t22, .i t23, .i h0, .i h1_0, .f h1_1, .f h1_2, .i h2, .i h3_0, .f h3_1, .f h3_2, .i h4_0, .f h4_1, .f h4_2, .i h5_0, .f h5_1, .f h5_2]) kn K = q00p none N t22 h0 h1_0 h1_1 h1_2 h2 h3_0 h3_1 h3_2 h4_0 h4_1 h4_2 h5_0 t23 h5_1 h5_2 (fun t23 h5_1 h5_2 => kn (buildS q0et [.i t22, .i t23, .i h0, .i h1_0, .f h1_1, .f h1_2, .i h2, .i h3_0, .f h3_1, .f h3_2, .i h4_0, .f h4_1, .f h4_2, .i h5_0, .f h5_1, .f h5_2])) (fun h5_1_ h5_2_ => K (.exit 0) (buildS q0eu [.i h0, .i h1_0, .f h1_1, .f h1_2, .i h2, .i h3_0, .f h3_1, .f h3_2, .i h4_0, .f h4_1, .f h4_2, .i h5_0, .f h5_1_, .f h5_2_])) := by kernel_rfl
theorem q0ew {α : Type} (N : Nat) (t22 h0 h1_0 : Int) (h1_1 h1_2 : NI) (h2 h3_0 : Int) (h3_1 h3_2 : NI) (h4_0 : Int) (h4_1 h4_2 : NI) (h5_0 : Int) (K : AExit -> St -> Option α) : ∀ (m : Nat) (t23 : Int) (h5_1 h5_2 : NI),
    loopN (trimSt ((q0er α N).ann 162 6).head ((q0er α N).ann 162 6).grow 6) (bodyK Try.prog (q0er α N) 1 3 162 Try.f162 6) m (buildS q0et [.i t22, .i t23, .i h0, .i h1_0, .f h1_1, .f h1_2, .i h2, .i h3_0, .f h3_1, .f h3_2, .i h4_0, .f h4_1, .f h4_2, .i h5_0, .f h5_1, .f h5_2]) (leaveLoop ((q0er α N).ann 162 6) 6 K) = q00q none N t22 h0 h1_0 h1_1 h1_2 h2 h3_0 h3_1 h3_2 h4_0 h4_1 h4_2 h5_0 m t23 h5_1 h5_2 (fun h5_1_ h5_2_ => K (.exit 0) (buildS q0eu [.i h0, .i h1_0, .f h1_1, .f h1_2, .i h2, .i h3_0, .f h3_1, .f h3_2, .i h4_0, .f h4_1, .f h4_2, .i h5_0, .f h5_1_, .f h5_2_])) := by
  intro m
  induction m with
  | zero => intros; rfl
  | succ m ih =>
    intro t23 h5_1 h5_2
    rw [loopN_round]
    refine (q0ev N t22 t23 h0 h1_0 h1_1 h1_2 h2 h3_0 h3_1 h3_2 h4_0 h4_1 h4_2 h5_0 h5_1 h5_2 _ K).trans ?_
    simp only [ih]
    rfl
def q0ex (α : Type) (N : Nat) : Env α := (q0er α N).addLoop2 162 6 (loopSum2 ((q0er α N).ann 162 6) 3 q0et (fun l K => match l with
    | [.i t22, .i t23, .i h0, .i h1_0, .f h1_1, .f h1_2, .i h2, .i h3_0, .f h3_1, .f h3_2, .i h4_0, .f h4_1, .f h4_2, .i h5_0, .f h5_1, .f h5_2] => q00q none N t22 h0 h1_0 h1_1 h1_2 h2 h3_0 h3_1 h3_2 h4_0 h4_1 h4_2 h5_0 N t23 h5_1 h5_2 (fun h5_1_ h5_2_ => K (.exit 0) (buildS q0eu [.i h0, .i h1_0, .f h1_1, .f h1_2, .i h2, .i h3_0, .f h3_1, .f h3_2, .i h4_0, .f h4_1, .f h4_2, .i h5_0, .f h5_1_, .f h5_2_]))
    | _ => none) ((q0er α N).ls 162 6))
theorem q0ey {α : Type} (N : Nat) : EnvOk Try.prog (q0ex α N) := (q0es N).addLoop2 Try.func162 (by kernel_rfl) (loopSum_ok q03v q03w (q0es N) Try.func162 (by kernel_rfl) (d := 1) (ro := 3) fun l K r h => by
  split at h
  · exact (q0ew N _ _ _ _ _ _ _ _ _ _ _ _ _ K N _ _ _).trans h
  · cases h)
def q0ez : SPat := ⟨[.agg [.vals [.int .i64], .ints .u8 8, .ints .u8 8], .func 196 [.ptr ⟨⟨0, 0⟩, 0, 0, 1⟩, .ptr ⟨⟨1, 0⟩, 0, 0, 1⟩, .ptr ⟨⟨2, 0⟩, 0, 0, 1⟩], .bool], [[.vals [.int .i64]], [.vals [.int .i64], .ints .u8 8, .ints .u8 8], [.vals [.int .i64]]]⟩
def q0f0 : SPat := ⟨[.agg [.vals [.int .i64], .ints .u8 8, .ints .u8 8]], [[.vals [.int .i64]], [.vals [.int .i64], .ints .u8 8, .ints .u8 8], [.vals [.int .i64]]]⟩
theorem q0f1 {α : Type} (N : Nat) (g_0 : Int) (g_1 g_2 : NI) (exchanged : Bool) (h0 h1_0 : Int) (h1_1 h1_2 : NI) (h2 : Int) (K : AV -> Heap -> Option α) :
    callK Try.prog (q0ex α N) 1 162 3 (buildS q0ez [.i g_0, .f g_1, .f g_2, .b exchanged, .i h0, .i h1_0, .f h1_1, .f h1_2, .i h2]).t (buildS q0ez [.i g_0, .f g_1, .f g_2, .b exchanged, .i h0, .i h1_0, .f h1_1, .f h1_2, .i h2]).h K = q00r none N g_0 g_1 g_2 exchanged h0 h1_0 h1_1 h1_2 h2 (fun r_1_ r_2_ => retK (buildS q0f0 [.i g_0, .f r_1_, .f r_2_, .i h0, .i h1_0, .f h1_1, .f h1_2, .i h2]) K) := by kernel_rfl
def q0f2 (α : Type) (N : Nat) : Env α := (q0ex α N).addFun 162 true 3 q0ez (fun l K => match l with
    | [.i g_0, .f g_1, .f g_2, .b exchanged, .i h0, .i h1_0, .f h1_1, .f h1_2, .i h2] => q00r none N g_0 g_1 g_2 exchanged h0 h1_0 h1_1 h1_2 h2 (fun r_1_ r_2_ => retK (buildS q0f0 [.i g_0, .f r_1_, .f r_2_, .i h0, .i h1_0, .f h1_1, .f h1_2, .i h2]) K)
    | _ => none)
theorem q0f3 {α : Type} (N : Nat) : EnvOk Try.prog (q0f2 α N) := (q0ey N).addFun q03v q03w (d := 1) fun l K r h => by
  split at h
  · exact (q0f1 N _ _ _ _ _ _ _ _ _ K).trans h
  · cases h
def q0f4 : SPat := ⟨[.agg [.vals [.int .i64], .ints .u8 8, .ints .u8 8], .int .i64, .int .i64], []⟩
def q0f5 : SPat := ⟨[.agg [.vals [.int .i64], .ints .u8 8, .ints .u8 8]], []⟩
theorem q0f6 {α : Type} (N : Nat) (g_0 : Int) (g_1 g_2 : NI) (v u : Int) (K : AV -> Heap -> Option α) :
    callK Try.prog (q0f2 α N) 1 118 0 (buildS q0f4 [.i g_0, .f g_1, .f g_2, .i v, .i u]).t (buildS q0f4 [.i g_0, .f g_1, .f g_2, .i v, .i u]).h K = q00s none N g_0 g_1 g_2 v u (fun r_1_ r_2_ => retK (buildS q0f5 [.i g_0, .f r_1_, .f r_2_]) K) := by kernel_rfl
def q0f7 (α : Type) (N : Nat) : Env α := (q0f2 α N).addFun 118 true 0 q0f4 (fun l K => match l with
    | [.i g_0, .f g_1, .f g_2, .i v, .i u] => q00s none N g_0 g_1 g_2 v u (fun r_1_ r_2_ => retK (buildS q0f5 [.i g_0, .f r_1_, .f r_2_]) K)
    | _ => none)
theorem q0f8 {α : Type} (N : Nat) : EnvOk Try.prog (q0f7 α N) := (q0f3 N).addFun q03v q03w (d := 1) fun l K r h => by
  split at h
  · exact (q0f6 N _ _ _ _ _ K).trans h
  · cases h
def q0f9 : SPat := ⟨[.agg [.vals [.int .i64], .ints .u8 8, .ints .u8 8], .int .i64, .int .i64], []⟩
def q0fa : SPat := ⟨[.tuple [.agg [.vals [.int .i64], .ints .u8 8, .ints .u8 8], .int .i64]], []⟩
theorem q0fb {α : Type} (N : Nat) (g_0 : Int) (g_1 g_2 : NI) (v u : Int) (K : AV -> Heap -> Option α) :
    callK Try.prog (q0f7 α N) 1 26 0 (buildS q0f9 [.i g_0, .f g_1, .f g_2, .i v, .i u]).t (buildS q0f9 [.i g_0, .f g_1, .f g_2, .i v, .i u]).h K = q00t none N g_0 g_1 g_2 v u (fun r_0_0_ r_0_1_ r_0_2_ r_1_ => retK (buildS q0fa [.i r_0_0_, .f r_0_1_, .f r_0_2_, .i r_1_]) K) := by kernel_rfl
def q0fc (α : Type) (N : Nat) : Env α := (q0f7 α N).addFun 26 true 0 q0f9 (fun l K => match l with
    | [.i g_0, .f g_1, .f g_2, .i v, .i u] => q00t none N g_0 g_1 g_2 v u (fun r_0_0_ r_0_1_ r_0_2_ r_1_ => retK (buildS q0fa [.i r_0_0_, .f r_0_1_, .f r_0_2_, .i r_1_]) K)
    | _ => none)
theorem q0fd {α : Type} (N : Nat) : EnvOk Try.prog (q0fc α N) := (q0f8 N).addFun q03v q03w (d := 1) fun l K r h => by
  split at h
  · exact (q0fb N _ _ _ _ _ K).trans h
  · cases h
def q0fe : SPat := ⟨[.agg [.vals [.int .i64], .ints .u8 8, .ints .u8 8], .int .i64, .int .i64], []⟩
def q0ff : SPat := ⟨[.tuple [.agg [.vals [.int .i64], .ints .u8 8, .ints .u8 8], .int .i64]], []⟩
theorem q0fg {α : Type} (N : Nat) (g_0 : Int) (g_1 g_2 : NI) (v u : Int) (K : AV -> Heap -> Option α) :
    callK Try.prog (q0fc α N) 1 27 0 (buildS q0fe [.i g_0, .f g_1, .f g_2, .i v, .i u]).t (buildS q0fe [.i g_0, .f g_1, .f g_2, .i v, .i u]).h K = q00l none N g_0 g_1 g_2 v u (fun r_0_0_ r_0_1_ r_0_2_ r_1_ => retK (buildS q0ff [.i r_0_0_, .f r_0_1_, .f r_0_2_, .i r_1_]) K) := by kernel_rfl
def q0fh (α : Type) (N : Nat) : Env α := (q0fc α N).addFun 27 true 0 q0fe (fun l K => match l with
    | [.i g_0, .f g_1, .f g_2, .i v, .i u] => q00l none N g_0 g_1 g_2 v u (fun r_0_0_ r_0_1_ r_0_2_ r_1_ => retK (buildS q0ff [.i r_0_0_, .f r_0_1_, .f r_0_2_, .i r_1_]) K)
    | _ => none)
theorem q0fi {α : Type} (N : Nat) : EnvOk Try.prog (q0fh α N) := (q0fd N).addFun q03v q03w (d := 1) fun l K r h => by
  split at h
  · exact (q0fg N _ _ _ _ _ K).trans h
  · cases h
def q0fj : SPat := ⟨[.sliceV 0 0 0 1 false], [[.intsV .u8]]⟩
def q0fk : SPat := ⟨[.tuple [.agg [.vals [.int .i64], .ints .u8 8, .ints .u8 8], .agg [.vals [.int .i64], .ints .u8 8, .ints .u8 8]]], [[.intsV .u8]]⟩
theorem q0fl {α : Type} (N code_n code_l code_c h0_n : Nat) (h0 : NI) (K : AV -> Heap -> Option α) :
    callK Try.prog (q0fh α N) 1 28 1 (buildS q0fj [.n code_n, .n code_l, .n code_c, .n h0_n, .f h0]).t (buildS q0fj [.n code_n, .n code_l, .n code_c, .n h0_n, .f h0]).h K = q03f none N code_n code_l code_c h0_n h0 (fun r_0_0_ r_0_1_ r_0_2_ r_1_0_ r_1_1_ r_1_2_ => retK (buildS q0fk [.i r_0_0_, .f r_0_1_, .f r_0_2_, .i r_1_0_, .f r_1_1_, .f r_1_2_, .n h0_n, .f h0]) K) := by kernel_rfl
def q0fm (α : Type) (N : Nat) : Env α := (q0fh α N).addFun 28 true 1 q0fj (fun l K => match l with
    | [.n code_n, .n code_l, .n code_c, .n h0_n, .f h0] => q03f none N code_n code_l code_c h0_n h0 (fun r_0_0_ r_0_1_ r_0_2_ r_1_0_ r_1_1_ r_1_2_ => retK (buildS q0fk [.i r_0_0_, .f r_0_1_, .f r_0_2_, .i r_1_0_, .f r_1_1_, .f r_1_2_, .n h0_n, .f h0]) K)
    | _ => none)
theorem q0fn {α : Type} (N : Nat) : EnvOk Try.prog (q0fm α N) := (q0fi N).addFun q03v q03w (d := 1) fun l K r h => by
  split at h
  · exact (q0fl N _ _ _ _ _ K).trans h
  · cases h
def q0fo (α : Type) (N : Nat) : Env α := (q0fm α N).addAnn 29 8 { head := [2, 3, 4, 6, 34, 35], grow := [], out := [4, 6], ret := [4, 5] }
theorem q0fp {α : Type} (N : Nat) : EnvOk Try.prog (q0fo α N) := (q0fn N).addAnn
def q0fq : SPat := ⟨[.undef, .undef, .ptr ⟨⟨0, 0⟩, 0, 0, 1⟩, .ptr ⟨⟨1, 0⟩, 0, 0, 1⟩, .ptr ⟨⟨2, 0⟩, 0, 0, 1⟩, .undef, .ptr ⟨⟨3, 0⟩, 0, 0, 1⟩, .undef, .undef, .undef, .undef, .undef, .undef, .undef, .undef, .undef, .undef, .undef, .undef, .undef, .undef, .undef, .undef, .undef, .undef, .undef, .undef, .undef, .undef, .undef, .undef, .undef, .undef, .undef, .int .i64, .int .i64] ++ List.replicate 32 .undef, [[.vals [.int .i64], .ints .u8 8, .ints .u8 8], [.vals [.int .i64], .ints .u8 8, .ints .u8 8], [.vals [.int .i64], .ints .u8 8, .ints .u8 8], [.vals [.int .i64], .ints .u8 8, .ints .u8 8]]⟩
def q0fr : SPat := ⟨[.undef, .undef, .undef, .undef, .ptr ⟨⟨2, 0⟩, 0, 0, 1⟩, .undef, .ptr ⟨⟨3, 0⟩, 0, 0, 1⟩] ++ List.replicate 61 .undef, [[.vals [.int .i64], .ints .u8 8, .ints .u8 8], [.vals [.int .i64], .ints .u8 8, .ints .u8 8], [.vals [.int .i64], .ints .u8 8, .ints .u8 8], [.vals [.int .i64], .ints .u8 8, .ints .u8 8]]⟩
theorem q0fs {α : Type} (N : Nat) (t34 t35 h0_0 : Int) (h0_1 h0_2 : NI) (h1_0 : Int) (h1_1 h1_2 : NI) (h2_0 : Int) (h2_1 h2_2 : NI) (h3_0 : Int) (h3_1 h3_2 : NI) (kn : St -> Option α) (K : AExit -> St -> Option α) :
    roundK Try.prog (q0fo α N) 1 0 29 Try.f29 8 4 (buildS q0fq [.i t34, .i t35, .i h0_0, .f h0_1, .f h0_2, .i h1_0, .f h1_1, .f h1_2, .i h2_0, .f h2_1, .f h2_2, .i h3_0, .f h3_1, .f h3_2]) kn K = q033 none N t34 h0_0 h0_1 h0_2 h1_0 h1_1 h1_2 h2_0 h2_1 h2_2 h3_0 t35 h3_1 h3_2 (fun t35 h3_1 h3_2 => kn (buildS q0fq [.i t34, .i t35, .i h0_0, .f h0_1, .f h0_2, .i h1_0, .f h1_1, .f h1_2, .i h2_0, .f h2_1, .f h2_2, .i h3_0, .f h3_1, .f h3_2])) (fun h3_1_ h3_2_ => K (.exit 1) (buildS q0fr [.i h0_0, .f h0_1, .f h0_2, .i h1_0, .f h1_1, .f h1_2, .i h2_0, .f h2_1, .f h2_2, .i h3_0, .f h3_1_, .f h3_2_])) := by kernel_rfl
theorem q0ft {α : Type} (N : Nat) (t34 h0_0 : Int) (h0_1 h0_2 : NI) (h1_0 : Int) (h1_1 h1_2 : NI) (h2_0 : Int) (h2_1 h2_2 : NI) (h3_0 : Int) (K : AExit -> St -> Option α) : ∀ (m : Nat) (t35 : Int) (h3_1 h3_2 : NI),
    loopN (trimSt ((q0fo α N).ann 29 8).head ((q0fo α N).ann 29 8).grow 4) (bodyK Try.prog (q0fo α N) 1 0 29 Try.f29 8) m (buildS q0fq [.i t34, .i t35, .i h0_0, .f h0_1, .f h0_2, .i h1_0, .f h1_1, .f h1_2, .i h2_0, .f h2_1, .f h2_2, .i h3_0, .f h3_1, .f h3_2]) (leaveLoop ((q0fo α N).ann 29 8) 4 K) = q034 none N t34 h0_0 h0_1 h0_2 h1_0 h1_1 h1_2 h2_0 h2_1 h2_2 h3_0 m t35 h3_1 h3_2 (fun h3_1_ h3_2_ => K (.exit 1) (buildS q0fr [.i h0_0, .f h0_1, .f h0_2, .i h1_0, .f h1_1, .f h1_2, .i h2_0, .f h2_1, .f h2_2, .i h3_0, .f h3_1_, .f h3_2_])) := by
  intro m
  induction m with
  | zero => intros; rfl
  | succ m ih =>
    intro t35 h3_1 h3_2
    rw [loopN_round]
    refine (q0fs N t34 t35 h0_0 h0_1 h0_2 h1_0 h1_1 h1_2 h2_0 h2_1 h2_2 h3_0 h3_1 h3_2 _ K).trans ?_
    simp only [ih]
    rfl
def q0fu (α : Type) (N : Nat) : Env α := (q0fo α N).addLoop2 29 8 (loopSum2 ((q0fo α N).ann 29 8) 0 q0fq (fun l K => match l with
    | [.i t34, .i t35, .i h0_0, .f h0_1, .f h0_2, .i h1_0, .f h1_1, .f h1_2, .i h2_0, .f h2_1, .f h2_2, .i h3_0, .f h3_1, .f h3_2] => q034 none N t34 h0_0 h0_1 h0_2 h1_0 h1_1 h1_2 h2_0 h2_1 h2_2 h3_0 N t35 h3_1 h3_2 (fun h3_1_ h3_2_ => K (.exit 1) (buildS q0fr [.i h0_0, .f h0_1, .f h0_2, .i h1_0, .f h1_1, .f h1_2, .i h2_0, .f h2_1, .f h2_2, .i h3_0, .f h3_1_, .f h3_2_]))
    | _ => none) ((q0fo α N).ls 29 8))
theorem q0fv {α : Type} (N : Nat) : EnvOk Try.prog (q0fu α N) := (q0fp N).addLoop2 Try.func29 (by kernel_rfl) (loopSum_ok q03v q03w (q0fp N) Try.func29 (by kernel_rfl) (d := 1) (ro := 0) fun l K r h => by
  split at h
  · exact (q0ft N _ _ _ _ _ _ _ _ _ _ _ K N _ _ _).trans h
  · cases h)
def q0fw : SPat := ⟨[.agg [.vals [.int .i64], .ints .u8 8, .ints .u8 8], .agg [.vals [.int .i64], .ints .u8 8, .ints .u8 8]], []⟩
def q0fx : SPat := ⟨[.tuple [.agg [.vals [.int .i64], .ints .u8 8, .ints .u8 8], .int .i64]], []⟩
theorem q0fy {α : Type} (N : Nat) (g_0 : Int) (g_1 g_2 : NI) (a1_0 : Int) (a1_1 a1_2 : NI) (K : AV -> Heap -> Option α) :
    callK Try.prog (q0fu α N) 1 29 0 (buildS q0fw [.i g_0, .f g_1, .f g_2, .i a1_0, .f a1_1, .f a1_2]).t (buildS q0fw [.i g_0, .f g_1, .f g_2, .i a1_0, .f a1_1, .f a1_2]).h K = q035 none N g_0 g_1 g_2 a1_0 a1_1 a1_2 (fun r_0_0_ r_0_1_ r_0_2_ r_1_ => retK (buildS q0fx [.i r_0_0_, .f r_0_1_, .f r_0_2_, .i r_1_]) K) := by kernel_rfl
def q0fz (α : Type) (N : Nat) : Env α := (q0fu α N).addFun 29 true 0 q0fw (fun l K => match l with
    | [.i g_0, .f g_1, .f g_2, .i a1_0, .f a1_1, .f a1_2] => q035 none N g_0 g_1 g_2 a1_0 a1_1 a1_2 (fun r_0_0_ r_0_1_ r_0_2_ r_1_ => retK (buildS q0fx [.i r_0_0_, .f r_0_1_, .f r_0_2_, .i r_1_]) K)
    | _ => none)
theorem q0g0 {α : Type} (N : Nat) : EnvOk Try.prog (q0fz α N) := (q0fv N).addFun q03v q03w (d := 1) fun l K r h => by
  split at h
  · exact (q0fy N _ _ _ _ _ _ K).trans h
  · cases h
def q0g1 (α : Type) (N : Nat) : Env α := (q0fz α N).addAnn 30 7 { head := [2, 3, 4, 6, 7], grow := [], out := [2, 3, 4, 6], ret := [4, 5] }
theorem q0g2 {α : Type} (N : Nat) : EnvOk Try.prog (q0g1 α N) := (q0g0 N).addAnn
def q0g3 : SPat := ⟨[.undef, .undef, .ptr ⟨⟨0, 0⟩, 0, 0, 1⟩, .ptr ⟨⟨1, 0⟩, 0, 0, 1⟩, .ptr ⟨⟨2, 0⟩, 0, 0, 1⟩, .undef, .int .i64, .int .i64] ++ List.replicate 56 .undef, [[.vals [.int .i64], .ints .u8 8, .ints .u8 8], [.vals [.int .i64], .ints .u8 8, .ints .u8 8], [.vals [.int .i64], .ints .u8 8, .ints .u8 8]]⟩
def q0g4 : SPat := ⟨[.undef, .undef, .ptr ⟨⟨0, 0⟩, 0, 0, 1⟩, .ptr ⟨⟨1, 0⟩, 0, 0, 1⟩, .ptr ⟨⟨2, 0⟩, 0, 0, 1⟩, .undef, .int .i64] ++ List.replicate 57 .undef, [[.vals [.int .i64], .ints .u8 8, .ints .u8 8], [.vals [.int .i64], .ints .u8 8, .ints .u8 8], [.vals [.int .i64], .ints .u8 8, .ints .u8 8]]⟩
theorem q0g5 {α : Type} (N : Nat) (n i h0_0 : Int) (h0_1 h0_2 : NI) (h1_0 : Int) (h1_1 h1_2 : NI) (h2_0 : Int) (h2_1 h2_2 : NI) (kn : St -> Option α) (K : AExit -> St -> Option α) :
    roundK Try.prog (q0g1 α N) 1 0 30 Try.f30 7 3 (buildS q0g3 [.i n, .i i, .i h0_0, .f h0_1, .f h0_2, .i h1_0, .f h1_1, .f h1_2, .i h2_0, .f h2_1, .f h2_2]) kn K = q030 none n h0_0 h1_0 h1_1 h1_2 h2_0 h2_1 h2_2 i h0_1 h0_2 (fun i h0_1 h0_2 => kn (buildS q0g3 [.i n, .i i, .i h0_0, .f h0_1, .f h0_2, .i h1_0, .f h1_1, .f h1_2, .i h2_0, .f h2_1, .f h2_2])) (fun h0_1_ h0_2_ => K (.exit 1) (buildS q0g4 [.i n, .i h0_0, .f h0_1_, .f h0_2_, .i h1_0, .f h1_1, .f h1_2, .i h2_0, .f h2_1, .f h2_2])) := by kernel_rfl
theorem q0g6 {α : Type} (N : Nat) (n h0_0 h1_0 : Int) (h1_1 h1_2 : NI) (h2_0 : Int) (h2_1 h2_2 : NI) (K : AExit -> St -> Option α) : ∀ (m : Nat) (i : Int) (h0_1 h0_2 : NI),
    loopN (trimSt ((q0g1 α N).ann 30 7).head ((q0g1 α N).ann 30 7).grow 3) (bodyK Try.prog (q0g1 α N) 1 0 30 Try.f30 7) m (buildS q0g3 [.i n, .i i, .i h0_0, .f h0_1, .f h0_2, .i h1_0, .f h1_1, .f h1_2, .i h2_0, .f h2_1, .f h2_2]) (leaveLoop ((q0g1 α N).ann 30 7) 3 K) = q031 none n h0_0 h1_0 h1_1 h1_2 h2_0 h2_1 h2_2 m i h0_1 h0_2 (fun h0_1_ h0_2_ => K (.exit 1) (buildS q0g4 [.i n, .i h0_0, .f h0_1_, .f h0_2_, .i h1_0, .f h1_1, .f h1_2, .i h2_0, .f h2_1, .f h2_2])) := by
  intro m
  induction m with
  | zero => intros; rfl
  | succ m ih =>
    intro i h0_1 h0_2
    rw [loopN_round]
    refine (q0g5 N n i h0_0 h0_1 h0_2 h1_0 h1_1 h1_2 h2_0 h2_1 h2_2 _ K).trans ?_
    simp only [ih]
    rfl
def q0g7 (α : Type) (N : Nat) : Env α := (q0g1 α N).addLoop2 30 7 (loopSum2 ((q0g1 α N).ann 30 7) 0 q0g3 (fun l K => match l with
    | [.i n, .i i, .i h0_0, .f h0_1, .f h0_2, .i h1_0, .f h1_1, .f h1_2, .i h2_0, .f h2_1, .f h2_2] => q031 none n h0_0 h1_0 h1_1 h1_2 h2_0 h2_1 h2_2 N i h0_1 h0_2 (fun h0_1_ h0_2_ => K (.exit 1) (buildS q0g4 [.i n, .i h0_0, .f h0_1_, .f h0_2_, .i h1_0, .f h1_1, .f h1_2, .i h2_0, .f h2_1, .f h2_2]))
    | _ => none) ((q0g1 α N).ls 30 7))
theorem q0g8 {α : Type} (N : Nat) : EnvOk Try.prog (q0g7 α N) := (q0g2 N).addLoop2 Try.func30 (by kernel_rfl) (loopSum_ok q03v q03w (q0g2 N) Try.func30 (by kernel_rfl) (d := 1) (ro := 0) fun l K r h => by
  split at h
  · exact (q0g6 N _ _ _ _ _ _ _ _ K N _ _ _).trans h
  · cases h)
def q0g9 : SPat := ⟨[.agg [.vals [.int .i64], .ints .u8 8, .ints .u8 8], .agg [.vals [.int .i64], .ints .u8 8, .ints .u8 8]], []⟩
def q0ga : SPat := ⟨[.tuple [.agg [.vals [.int .i64], .ints .u8 8, .ints .u8 8], .int .i64]], []⟩
theorem q0gb {α : Type} (N : Nat) (g_0 : Int) (g_1 g_2 : NI) (h_0 : Int) (h_1 h_2 : NI) (K : AV -> Heap -> Option α) :
    callK Try.prog (q0g7 α N) 1 30 0 (buildS q0g9 [.i g_0, .f g_1, .f g_2, .i h_0, .f h_1, .f h_2]).t (buildS q0g9 [.i g_0, .f g_1, .f g_2, .i h_0, .f h_1, .f h_2]).h K = q032 none N g_0 g_1 g_2 h_0 h_1 h_2 (fun r_0_0_ r_0_1_ r_0_2_ r_1_ => retK (buildS q0ga [.i r_0_0_, .f r_0_1_, .f r_0_2_, .i r_1_]) K) := by kernel_rfl
def q0gc (α : Type) (N : Nat) : Env α := (q0g7 α N).addFun 30 true 0 q0g9 (fun l K => match l with
    | [.i g_0, .f g_1, .f g_2, .i h_0, .f h_1, .f h_2] => q032 none N g_0 g_1 g_2 h_0 h_1 h_2 (fun r_0_0_ r_0_1_ r_0_2_ r_1_ => retK (buildS q0ga [.i r_0_0_, .f r_0_1_, .f r_0_2_, .i r_1_]) K)
    | _ => none)
theorem q0gd {α : Type} (N : Nat) : EnvOk Try.prog (q0gc α N) := (q0g8 N).addFun q03v q03w (d := 1) fun l K r h => by
  split at h
  · exact (q0gb N _ _ _ _ _ _ K).trans h
  · cases h
def q0ge : SPat := ⟨[.ptr ⟨⟨1, 0⟩, 0, 0, 3⟩, .slice ⟨⟨2, 0⟩, 0, 0, 4⟩ 4 4 1 true], [[.intsV .u8], [.vals [.sliceV 0 0 0 1 false, .int .i64, .int .u64]], [.vec .i64]]⟩
def q0gf : SPat := ⟨[.int .i64], [[.intsV .u8], [.vals [.sliceV 0 0 0 1 false, .int .i64, .int .u64]], [.vec .i64]]⟩
theorem q0gg {α : Type} (N h0_n : Nat) (h0 : NI) (h1_0_n h1_0_l h1_0_c : Nat) (h1_1 h1_2 : Int) (h2 : List Int) (K : AV -> Heap -> Option α) :
    callK Try.prog (q0gc α N) 1 115 1 (buildS q0ge [.n h0_n, .f h0, .n h1_0_n, .n h1_0_l, .n h1_0_c, .i h1_1, .i h1_2, .l h2]).t (buildS q0ge [.n h0_n, .f h0, .n h1_0_n, .n h1_0_l, .n h1_0_c, .i h1_1, .i h1_2, .l h2]).h K = q03g none N h0_n h0 h1_0_n h1_0_l h1_0_c h1_1 h1_2 h2 (fun r__ h1_1_ h1_2_ => retK (buildS q0gf [.i r__, .n h0_n, .f h0, .n h1_0_n, .n h1_0_l, .n h1_0_c, .i h1_1_, .i h1_2_, .l h2]) K) := by kernel_rfl
def q0gh (α : Type) (N : Nat) : Env α := (q0gc α N).addFun 115 false 1 q0ge (fun l K => match l with
    | [.n h0_n, .f h0, .n h1_0_n, .n h1_0_l, .n h1_0_c, .i h1_1, .i h1_2, .l h2] => q03g none N h0_n h0 h1_0_n h1_0_l h1_0_c h1_1 h1_2 h2 (fun r__ h1_1_ h1_2_ => retK (buildS q0gf [.i r__, .n h0_n, .f h0, .n h1_0_n, .n h1_0_l, .n h1_0_c, .i h1_1_, .i h1_2_, .l h2]) K)
    | _ => none)
theorem q0gi {α : Type} (N : Nat) : EnvOk Try.prog (q0gh α N) := (q0gd N).addFun q03v q03w (d := 1) fun l K r h => by
  split at h
  · exact (q0gg N _ _ _ _ _ _ _ _ K).trans h
  · cases h
def q0gj : SPat := ⟨[.ptr ⟨⟨1, 0⟩, 0, 0, 3⟩, .int .i64], [[.intsV .u8], [.vals [.sliceV 0 0 0 1 false, .int .i64, .int .u64]]]⟩
def q0gk : SPat := ⟨[.int .i64], [[.intsV .u8], [.vals [.sliceV 0 0 0 1 false, .int .i64, .int .u64]]]⟩
theorem q0gl {α : Type} (N : Nat) (most : Int) (h0_n : Nat) (h0 : NI) (h1_0_n h1_0_l h1_0_c : Nat) (h1_1 h1_2 : Int) (K : AV -> Heap -> Option α) :
    callK Try.prog (q0gh α N) 1 123 1 (buildS q0gj [.i most, .n h0_n, .f h0, .n h1_0_n, .n h1_0_l, .n h1_0_c, .i h1_1, .i h1_2]).t (buildS q0gj [.i most, .n h0_n, .f h0, .n h1_0_n, .n h1_0_l, .n h1_0_c, .i h1_1, .i h1_2]).h K = q03h none N most h0_n h0 h1_0_n h1_0_l h1_0_c h1_1 h1_2 (fun r__ h1_1_ h1_2_ => retK (buildS q0gk [.i r__, .n h0_n, .f h0, .n h1_0_n, .n h1_0_l, .n h1_0_c, .i h1_1_, .i h1_2_]) K) := by kernel_rfl
def q0gm (α : Type) (N : Nat) : Env α := (q0gh α N).addFun 123 false 1 q0gj (fun l K => match l with
    | [.i most, .n h0_n, .f h0, .n h1_0_n, .n h1_0_l, .n h1_0_c, .i h1_1, .i h1_2] => q03h none N most h0_n h0 h1_0_n h1_0_l h1_0_c h1_1 h1_2 (fun r__ h1_1_ h1_2_ => retK (buildS q0gk [.i r__, .n h0_n, .f h0, .n h1_0_n, .n h1_0_l, .n h1_0_c, .i h1_1_, .i h1_2_]) K)
    | _ => none)
theorem q0gn {α : Type} (N : Nat) : EnvOk Try.prog (q0gm α N) := (q0gi N).addFun q03v q03w (d := 1) fun l K r h => by
  split at h
  · exact (q0gl N _ _ _ _ _ _ _ _ K).trans h
  · cases h
def q0go : SPat := ⟨[.sliceV 0 0 0 1 false], [[.intsV .u8]]⟩
def q0gp : SPat := ⟨[.tuple [.int .i64, .int .i64]], [[.intsV .u8]]⟩
theorem q0gq {α : Type} (N code_n code_l code_c h0_n : Nat) (h0 : NI) (K : AV -> Heap -> Option α) :
    callK Try.prog (q0gm α N) 1 31 1 (buildS q0go [.n code_n, .n code_l, .n code_c, .n h0_n, .f h0]).t (buildS q0go [.n code_n, .n code_l, .n code_c, .n h0_n, .f h0]).h K = q03i none N code_n code_l code_c h0_n h0 (fun r_0_ r_1_ => retK (buildS q0gp [.i r_0_, .i r_1_, .n h0_n, .f h0]) K) := by kernel_rfl
def q0gr (α : Type) (N : Nat) : Env α := (q0gm α N).addFun 31 true 1 q0go (fun l K => match l with
    | [.n code_n, .n code_l, .n code_c, .n h0_n, .f h0] => q03i none N code_n code_l code_c h0_n h0 (fun r_0_ r_1_ => retK (buildS q0gp [.i r_0_, .i r_1_, .n h0_n, .f h0]) K)
    | _ => none)
theorem q0gs {α : Type} (N : Nat) : EnvOk Try.prog (q0gr α N) := (q0gn N).addFun q03v q03w (d := 1) fun l K r h => by
  split at h
  · exact (q0gq N _ _ _ _ _ K).trans h
  · cases h
def q0gt (α : Type) (N : Nat) : Env α := (q0gr α N).addAnn 32 5 { head := [0, 1, 4, 6, 29, 30], grow := [], out := [4, 6], ret := [4, 5] }
theorem q0gu {α : Type} (N : Nat) : EnvOk Try.prog (q0gt α N) := (q0gs N).addAnn
def q0gv : SPat := ⟨[.int .i64, .int .i64, .undef, .undef, .ptr ⟨⟨0, 0⟩, 0, 0, 1⟩, .undef, .ptr ⟨⟨1, 0⟩, 0, 0, 1⟩, .undef, .undef, .undef, .undef, .undef, .undef, .undef, .undef, .undef, .undef, .undef, .undef, .undef, .undef, .undef, .undef, .undef, .undef, .undef, .undef, .undef, .undef, .int .i64, .int .i64] ++ List.replicate 20 .undef, [[.vals [.int .i64], .ints .u8 8, .ints .u8 8], [.vals [.int .i64], .ints .u8 8, .ints .u8 8]]⟩
def q0gw : SPat := ⟨[.undef, .undef, .undef, .undef, .ptr ⟨⟨0, 0⟩, 0, 0, 1⟩, .undef, .ptr ⟨⟨1, 0⟩, 0, 0, 1⟩] ++ List.replicate 44 .undef, [[.vals [.int .i64], .ints .u8 8, .ints .u8 8], [.vals [.int .i64], .ints .u8 8, .ints .u8 8]]⟩
theorem q0gx {α : Type} (N : Nat) (p q t29 t30 h0_0 : Int) (h0_1 h0_2 : NI) (h1_0 : Int) (h1_1 h1_2 : NI) (kn : St -> Option α) (K : AExit -> St -> Option α) :
    roundK Try.prog (q0gt α N) 1 0 32 Try.f32 5 2 (buildS q0gv [.i p, .i q, .i t29, .i t30, .i h0_0, .f h0_1, .f h0_2, .i h1_0, .f h1_1, .f h1_2]) kn K = q039 none p q t29 h0_0 h0_1 h0_2 h1_0 t30 h1_1 h1_2 (fun t30 h1_1 h1_2 => kn (buildS q0gv [.i p, .i q, .i t29, .i t30, .i h0_0, .f h0_1, .f h0_2, .i h1_0, .f h1_1, .f h1_2])) (fun h1_1_ h1_2_ => K (.exit 0) (buildS q0gw [.i h0_0, .f h0_1, .f h0_2, .i h1_0, .f h1_1_, .f h1_2_])) := by kernel_rfl
theorem q0gy {α : Type} (N : Nat) (p q t29 h0_0 : Int) (h0_1 h0_2 : NI) (h1_0 : Int) (K : AExit -> St -> Option α) : ∀ (m : Nat) (t30 : Int) (h1_1 h1_2 : NI),
    loopN (trimSt ((q0gt α N).ann 32 5).head ((q0gt α N).ann 32 5).grow 2) (bodyK Try.prog (q0gt α N) 1 0 32 Try.f32 5) m (buildS q0gv [.i p, .i q, .i t29, .i t30, .i h0_0, .f h0_1, .f h0_2, .i h1_0, .f h1_1, .f h1_2]) (leaveLoop ((q0gt α N).ann 32 5) 2 K) = q03a none p q t29 h0_0 h0_1 h0_2 h1_0 m t30 h1_1 h1_2 (fun h1_1_ h1_2_ => K (.exit 0) (buildS q0gw [.i h0_0, .f h0_1, .f h0_2, .i h1_0, .f h1_1_, .f h1_2_])) := by
  intro m
  induction m with
  | zero => intros; rfl
  | succ m ih =>
    intro t30 h1_1 h1_2
    rw [loopN_round]
    refine (q0gx N p q t29 t30 h0_0 h0_1 h0_2 h1_0 h1_1 h1_2 _ K).trans ?_
    simp only [ih]
    rfl
def q0gz (α : Type) (N : Nat) : Env α := (q0gt α N).addLoop2 32 5 (loopSum2 ((q0gt α N).ann 32 5) 0 q0gv (fun l K => match l with
    | [.i p, .i q, .i t29, .i t30, .i h0_0, .f h0_1, .f h0_2, .i h1_0, .f h1_1, .f h1_2] => q03a none p q t29 h0_0 h0_1 h0_2 h1_0 N t30 h1_1 h1_2 (fun h1_1_ h1_2_ => K (.exit 0) (buildS q0gw [.i h0_0, .f h0_1, .f h0_2, .i h1_0, .f h1_1_, .f h1_2_]))
    | _ => none) ((q0gt α N).ls 32 5))
theorem q0h0 {α : Type} (N : Nat) : EnvOk Try.prog (q0gz α N) := (q0gu N).addLoop2 Try.func32 (by kernel_rfl) (loopSum_ok q03v q03w (q0gu N) Try.func32 (by kernel_rfl) (d := 1) (ro := 0) fun l K r h => by
  split at h
  · exact (q0gy N _ _ _ _ _ _ _ K N _ _ _).trans h
  · cases h)
def q0h1 : SPat := ⟨[.int .i64, .int .i64], []⟩
def q0h2 : SPat := ⟨[.tuple [.agg [.vals [.int .i64], .ints .u8 8, .ints .u8 8], .int .i64]], []⟩
theorem q0h3 {α : Type} (N : Nat) (p q : Int) (K : AV -> Heap -> Option α) :
    callK Try.prog (q0gz α N) 1 32 0 (buildS q0h1 [.i p, .i q]).t (buildS q0h1 [.i p, .i q]).h K = q03b none N p q (fun r_0_0_ r_0_1_ r_0_2_ r_1_ => retK (buildS q0h2 [.i r_0_0_, .f r_0_1_, .f r_0_2_, .i r_1_]) K) := by kernel_rfl
def q0h4 (α : Type) (N : Nat) : Env α := (q0gz α N).addFun 32 true 0 q0h1 (fun l K => match l with
    | [.i p, .i q] => q03b none N p q (fun r_0_0_ r_0_1_ r_0_2_ r_1_ => retK (buildS q0h2 [.i r_0_0_, .f r_0_1_, .f r_0_2_, .i r_1_]) K)
    | _ => none)
theorem q0h5 {α : Type} (N : Nat) : EnvOk Try.prog (q0h4 α N) := (q0h0 N).addFun q03v q03w (d := 1) fun l K r h => by
  split at h
  · exact (q0h3 N _ _ K).trans h
  · cases h
def q0h6 (α : Type) (N : Nat) : Env α := (q0h4 α N).addAnn 33 5 { head := [0, 1, 4, 6, 7], grow := [], out := [4, 6], ret := [4, 5] }
theorem q0h7 {α : Type} (N : Nat) : EnvOk Try.prog (q0h6 α N) := (q0h5 N).addAnn
end Go.AM
