/- A part of a proof about the given program: an abstract machine, what the given functions come to, and plain laws. -/
import Derived.Test.YtoginabccpjeoaaMachG
import Derived.Test.YtoginabccpjeoaaDallLawCrossings1
import Derived.Test.YtoginabccpjeoaaProg
set_option linter.unusedVariables false
set_option linter.unusedSimpArgs false
set_option maxRecDepth 100000
set_option maxHeartbeats 4000000
namespace Go.AM
open Go.Proofs
def E0 (α : Type) (N : Nat) : Env α := Env.base (fun _ _ => {}) N
theorem E0_ok {α : Type} (N : Nat) : EnvOk Try.prog (E0 α N) := .base
theorem q05l : Try.prog.follows .mixedOrders = true := by kernel_rfl
theorem q05m : NamesOk Try.prog := .of_all (by kernel_rfl)
def q05n : SPat := ⟨[.int .i64, .int .i64, .int .i64], []⟩
def q05o : SPat := ⟨[.bool], []⟩
theorem q05p {α : Type} (N : Nat) (x low high : Int) (K : AV -> Heap -> Option α) :
    callK Try.prog (E0 α N) 1 117 0 (buildS q05n [.i x, .i low, .i high]).t (buildS q05n [.i x, .i low, .i high]).h K = q001 none N x low high (fun r__ => retK (buildS q05o [.b r__]) K) := by kernel_rfl
def q05q (α : Type) (N : Nat) : Env α := (E0 α N).addFun 117 true 0 q05n (fun l K => match l with
    | [.i x, .i low, .i high] => q001 none N x low high (fun r__ => retK (buildS q05o [.b r__]) K)
    | _ => none)
theorem q05r {α : Type} (N : Nat) : EnvOk Try.prog (q05q α N) := (E0_ok N).addFun q05l q05m (d := 1) fun l K r h => by
  split at h
  · exact (q05p N _ _ _ K).trans h
  · cases h
def q05s : SPat := ⟨[.agg [.vals [.int .i64], .ints .u8 8, .ints .u8 8]], []⟩
def q05t : SPat := ⟨[.int .i64], []⟩
theorem q05u {α : Type} (N : Nat) (g_0 : Int) (g_1 g_2 : NI) (K : AV -> Heap -> Option α) :
    callK Try.prog (q05q α N) 1 106 0 (buildS q05s [.i g_0, .f g_1, .f g_2]).t (buildS q05s [.i g_0, .f g_1, .f g_2]).h K = q008 none N g_0 g_1 g_2 (retK (buildS q05t [.i g_0]) K) := by kernel_rfl
def q05v (α : Type) (N : Nat) : Env α := (q05q α N).addFun 106 true 0 q05s (fun l K => match l with
    | [.i g_0, .f g_1, .f g_2] => q008 none N g_0 g_1 g_2 (retK (buildS q05t [.i g_0]) K)
    | _ => none)
theorem q05w {α : Type} (N : Nat) : EnvOk Try.prog (q05v α N) := (q05r N).addFun q05l q05m (d := 1) fun l K r h => by
  split at h
  · exact (q05u N _ _ _ K).trans h
  · cases h
def q05x (α : Type) (N : Nat) : Env α := (q05v α N).addAnn 195 3 { head := [1, 5, 8, 9, 10], grow := [], out := [1, 5], ret := [4] }
theorem q05y {α : Type} (N : Nat) : EnvOk Try.prog (q05x α N) := (q05w N).addAnn
def q05z : SPat := ⟨[.undef, .int .i64, .undef, .undef, .undef, .int .i64, .undef, .undef, .slice ⟨⟨0, 0⟩, 1, 0, 8⟩ 8 8 1 true, .intC .i64 8, .int .i64] ++ List.replicate 30 .undef, [[.vals [.int .i64], .ints .u8 8, .ints .u8 8]]⟩
def q060 : SPat := ⟨[.undef, .undef, .undef, .undef, .boolC false] ++ List.replicate 36 .undef, [[.vals [.int .i64], .ints .u8 8, .ints .u8 8]]⟩
def q061 : SPat := ⟨[.undef, .int .i64, .undef, .undef, .undef, .int .i64] ++ List.replicate 35 .undef, [[.vals [.int .i64], .ints .u8 8, .ints .u8 8]]⟩
theorem q062 {α : Type} (N : Nat) (n seen t10 h0_0 : Int) (h0_1 h0_2 : NI) (kn : St -> Option α) (K : AExit -> St -> Option α) :
    roundK Try.prog (q05x α N) 1 1 195 Try.f195 3 1 (buildS q05z [.i n, .i seen, .i t10, .i h0_0, .f h0_1, .f h0_2]) kn K = q009 none n h0_0 h0_1 h0_2 seen t10 (fun seen t10 => kn (buildS q05z [.i n, .i seen, .i t10, .i h0_0, .f h0_1, .f h0_2])) (K .ret (buildS q060 [.i h0_0, .f h0_1, .f h0_2])) (fun seen_ => K (.exit 0) (buildS q061 [.i n, .i seen_, .i h0_0, .f h0_1, .f h0_2])) := by kernel_rfl
theorem q063 {α : Type} (N : Nat) (n h0_0 : Int) (h0_1 h0_2 : NI) (K : AExit -> St -> Option α) : ∀ (m : Nat) (seen t10 : Int),
    loopN (trimSt ((q05x α N).ann 195 3).head ((q05x α N).ann 195 3).grow 1) (bodyK Try.prog (q05x α N) 1 1 195 Try.f195 3) m (buildS q05z [.i n, .i seen, .i t10, .i h0_0, .f h0_1, .f h0_2]) (leaveLoop ((q05x α N).ann 195 3) 1 K) = q00a none n h0_0 h0_1 h0_2 m seen t10 (K .ret (buildS q060 [.i h0_0, .f h0_1, .f h0_2])) (fun seen_ => K (.exit 0) (buildS q061 [.i n, .i seen_, .i h0_0, .f h0_1, .f h0_2])) := by
  intro m
  induction m with
  | zero => intros; rfl
  | succ m ih =>
    intro seen t10
    rw [loopN_round]
    refine (q062 N n seen t10 h0_0 h0_1 h0_2 _ K).trans ?_
    simp only [ih]
    rfl
def q064 (α : Type) (N : Nat) : Env α := (q05x α N).addLoop2 195 3 (loopSum2 ((q05x α N).ann 195 3) 1 q05z (fun l K => match l with
    | [.i n, .i seen, .i t10, .i h0_0, .f h0_1, .f h0_2] => q00a none n h0_0 h0_1 h0_2 N seen t10 (K .ret (buildS q060 [.i h0_0, .f h0_1, .f h0_2])) (fun seen_ => K (.exit 0) (buildS q061 [.i n, .i seen_, .i h0_0, .f h0_1, .f h0_2]))
    | _ => none) ((q05x α N).ls 195 3))
theorem q065 {α : Type} (N : Nat) : EnvOk Try.prog (q064 α N) := (q05y N).addLoop2 Try.func195 (by kernel_rfl) (loopSum_ok q05l q05m (q05y N) Try.func195 (by kernel_rfl) (d := 1) (ro := 1) fun l K r h => by
  split at h
  · exact (q063 N _ _ _ _ K N _ _).trans h
  · cases h)
def q066 : SPat := ⟨[.slice ⟨⟨0, 0⟩, 1, 0, 8⟩ 8 8 1 true, .int .i64], [[.vals [.int .i64], .ints .u8 8, .ints .u8 8]]⟩
def q067 : SPat := ⟨[.bool], [[.vals [.int .i64], .ints .u8 8, .ints .u8 8]]⟩
theorem q068 {α : Type} (N : Nat) (n h0_0 : Int) (h0_1 h0_2 : NI) (K : AV -> Heap -> Option α) :
    callK Try.prog (q064 α N) 1 195 1 (buildS q066 [.i n, .i h0_0, .f h0_1, .f h0_2]).t (buildS q066 [.i n, .i h0_0, .f h0_1, .f h0_2]).h K = q00b none N n h0_0 h0_1 h0_2 (fun r__ => retK (buildS q067 [.b r__, .i h0_0, .f h0_1, .f h0_2]) K) := by kernel_rfl
def q069 (α : Type) (N : Nat) : Env α := (q064 α N).addFun 195 true 1 q066 (fun l K => match l with
    | [.i n, .i h0_0, .f h0_1, .f h0_2] => q00b none N n h0_0 h0_1 h0_2 (fun r__ => retK (buildS q067 [.b r__, .i h0_0, .f h0_1, .f h0_2]) K)
    | _ => none)
theorem q06a {α : Type} (N : Nat) : EnvOk Try.prog (q069 α N) := (q065 N).addFun q05l q05m (d := 1) fun l K r h => by
  split at h
  · exact (q068 N _ _ _ _ K).trans h
  · cases h
def q06b : SPat := ⟨[.undef, .int .i64, .undef, .undef, .undef, .int .i64, .undef, .undef, .slice ⟨⟨0, 0⟩, 2, 0, 8⟩ 8 8 1 true, .intC .i64 8, .int .i64] ++ List.replicate 30 .undef, [[.vals [.int .i64], .ints .u8 8, .ints .u8 8]]⟩
def q06c : SPat := ⟨[.undef, .undef, .undef, .undef, .boolC false] ++ List.replicate 36 .undef, [[.vals [.int .i64], .ints .u8 8, .ints .u8 8]]⟩
def q06d : SPat := ⟨[.undef, .int .i64, .undef, .undef, .undef, .int .i64] ++ List.replicate 35 .undef, [[.vals [.int .i64], .ints .u8 8, .ints .u8 8]]⟩
theorem q06e {α : Type} (N : Nat) (n seen t10 h0_0 : Int) (h0_1 h0_2 : NI) (kn : St -> Option α) (K : AExit -> St -> Option α) :
    roundK Try.prog (q069 α N) 1 1 195 Try.f195 3 1 (buildS q06b [.i n, .i seen, .i t10, .i h0_0, .f h0_1, .f h0_2]) kn K = q00c none n h0_0 h0_1 h0_2 seen t10 (fun seen t10 => kn (buildS q06b [.i n, .i seen, .i t10, .i h0_0, .f h0_1, .f h0_2])) (K .ret (buildS q06c [.i h0_0, .f h0_1, .f h0_2])) (fun seen_ => K (.exit 0) (buildS q06d [.i n, .i seen_, .i h0_0, .f h0_1, .f h0_2])) := by kernel_rfl
theorem q06f {α : Type} (N : Nat) (n h0_0 : Int) (h0_1 h0_2 : NI) (K : AExit -> St -> Option α) : ∀ (m : Nat) (seen t10 : Int),
    loopN (trimSt ((q069 α N).ann 195 3).head ((q069 α N).ann 195 3).grow 1) (bodyK Try.prog (q069 α N) 1 1 195 Try.f195 3) m (buildS q06b [.i n, .i seen, .i t10, .i h0_0, .f h0_1, .f h0_2]) (leaveLoop ((q069 α N).ann 195 3) 1 K) = q00d none n h0_0 h0_1 h0_2 m seen t10 (K .ret (buildS q06c [.i h0_0, .f h0_1, .f h0_2])) (fun seen_ => K (.exit 0) (buildS q06d [.i n, .i seen_, .i h0_0, .f h0_1, .f h0_2])) := by
  intro m
  induction m with
  | zero => intros; rfl
  | succ m ih =>
    intro seen t10
    rw [loopN_round]
    refine (q06e N n seen t10 h0_0 h0_1 h0_2 _ K).trans ?_
    simp only [ih]
    rfl
def q06g (α : Type) (N : Nat) : Env α := (q069 α N).addLoop2 195 3 (loopSum2 ((q069 α N).ann 195 3) 1 q06b (fun l K => match l with
    | [.i n, .i seen, .i t10, .i h0_0, .f h0_1, .f h0_2] => q00d none n h0_0 h0_1 h0_2 N seen t10 (K .ret (buildS q06c [.i h0_0, .f h0_1, .f h0_2])) (fun seen_ => K (.exit 0) (buildS q06d [.i n, .i seen_, .i h0_0, .f h0_1, .f h0_2]))
    | _ => none) ((q069 α N).ls 195 3))
theorem q06h {α : Type} (N : Nat) : EnvOk Try.prog (q06g α N) := (q06a N).addLoop2 Try.func195 (by kernel_rfl) (loopSum_ok q05l q05m (q06a N) Try.func195 (by kernel_rfl) (d := 1) (ro := 1) fun l K r h => by
  split at h
  · exact (q06f N _ _ _ _ K N _ _).trans h
  · cases h)
def q06i : SPat := ⟨[.slice ⟨⟨0, 0⟩, 2, 0, 8⟩ 8 8 1 true, .int .i64], [[.vals [.int .i64], .ints .u8 8, .ints .u8 8]]⟩
def q06j : SPat := ⟨[.bool], [[.vals [.int .i64], .ints .u8 8, .ints .u8 8]]⟩
theorem q06k {α : Type} (N : Nat) (n h0_0 : Int) (h0_1 h0_2 : NI) (K : AV -> Heap -> Option α) :
    callK Try.prog (q06g α N) 1 195 1 (buildS q06i [.i n, .i h0_0, .f h0_1, .f h0_2]).t (buildS q06i [.i n, .i h0_0, .f h0_1, .f h0_2]).h K = q00e none N n h0_0 h0_1 h0_2 (fun r__ => retK (buildS q06j [.b r__, .i h0_0, .f h0_1, .f h0_2]) K) := by kernel_rfl
def q06l (α : Type) (N : Nat) : Env α := (q06g α N).addFun 195 true 1 q06i (fun l K => match l with
    | [.i n, .i h0_0, .f h0_1, .f h0_2] => q00e none N n h0_0 h0_1 h0_2 (fun r__ => retK (buildS q06j [.b r__, .i h0_0, .f h0_1, .f h0_2]) K)
    | _ => none)
theorem q06m {α : Type} (N : Nat) : EnvOk Try.prog (q06l α N) := (q06h N).addFun q05l q05m (d := 1) fun l K r h => by
  split at h
  · exact (q06k N _ _ _ _ K).trans h
  · cases h
def q06n (α : Type) (N : Nat) : Env α := (q06l α N).addAnn 116 4 { head := [1, 25, 26], grow := [], out := [], ret := [2] }
theorem q06o {α : Type} (N : Nat) : EnvOk Try.prog (q06n α N) := (q06m N).addAnn
def q06p : SPat := ⟨[.undef, .ptr ⟨⟨0, 0⟩, 0, 0, 1⟩, .undef, .undef, .undef, .undef, .undef, .undef, .undef, .undef, .undef, .undef, .undef, .undef, .undef, .undef, .undef, .undef, .undef, .undef, .undef, .undef, .undef, .undef, .undef, .int .i64, .int .i64] ++ List.replicate 12 .undef, [[.vals [.int .i64], .ints .u8 8, .ints .u8 8]]⟩
def q06q : SPat := ⟨[.undef, .undef, .boolC false] ++ List.replicate 36 .undef, [[.vals [.int .i64], .ints .u8 8, .ints .u8 8]]⟩
def q06r : SPat := ⟨[] ++ List.replicate 39 .undef, [[.vals [.int .i64], .ints .u8 8, .ints .u8 8]]⟩
theorem q06s {α : Type} (N : Nat) (t25 t26 h0_0 : Int) (h0_1 h0_2 : NI) (kn : St -> Option α) (K : AExit -> St -> Option α) :
    roundK Try.prog (q06n α N) 1 0 116 Try.f116 4 1 (buildS q06p [.i t25, .i t26, .i h0_0, .f h0_1, .f h0_2]) kn K = q00f none t25 h0_0 h0_1 h0_2 t26 (fun t26 => kn (buildS q06p [.i t25, .i t26, .i h0_0, .f h0_1, .f h0_2])) (K .ret (buildS q06q [.i h0_0, .f h0_1, .f h0_2])) (K (.exit 0) (buildS q06r [.i h0_0, .f h0_1, .f h0_2])) := by kernel_rfl
theorem q06t {α : Type} (N : Nat) (t25 h0_0 : Int) (h0_1 h0_2 : NI) (K : AExit -> St -> Option α) : ∀ (m : Nat) (t26 : Int),
    loopN (trimSt ((q06n α N).ann 116 4).head ((q06n α N).ann 116 4).grow 1) (bodyK Try.prog (q06n α N) 1 0 116 Try.f116 4) m (buildS q06p [.i t25, .i t26, .i h0_0, .f h0_1, .f h0_2]) (leaveLoop ((q06n α N).ann 116 4) 1 K) = q00g none t25 h0_0 h0_1 h0_2 m t26 (K .ret (buildS q06q [.i h0_0, .f h0_1, .f h0_2])) (K (.exit 0) (buildS q06r [.i h0_0, .f h0_1, .f h0_2])) := by
  intro m
  induction m with
  | zero => intros; rfl
  | succ m ih =>
    intro t26
    rw [loopN_round]
    refine (q06s N t25 t26 h0_0 h0_1 h0_2 _ K).trans ?_
    simp only [ih]
    rfl
def q06u (α : Type) (N : Nat) : Env α := (q06n α N).addLoop2 116 4 (loopSum2 ((q06n α N).ann 116 4) 0 q06p (fun l K => match l with
    | [.i t25, .i t26, .i h0_0, .f h0_1, .f h0_2] => q00g none t25 h0_0 h0_1 h0_2 N t26 (K .ret (buildS q06q [.i h0_0, .f h0_1, .f h0_2])) (K (.exit 0) (buildS q06r [.i h0_0, .f h0_1, .f h0_2]))
    | _ => none) ((q06n α N).ls 116 4))
theorem q06v {α : Type} (N : Nat) : EnvOk Try.prog (q06u α N) := (q06o N).addLoop2 Try.func116 (by kernel_rfl) (loopSum_ok q05l q05m (q06o N) Try.func116 (by kernel_rfl) (d := 1) (ro := 0) fun l K r h => by
  split at h
  · exact (q06t N _ _ _ _ K N _).trans h
  · cases h)
def q06w : SPat := ⟨[.agg [.vals [.int .i64], .ints .u8 8, .ints .u8 8]], []⟩
def q06x : SPat := ⟨[.bool], []⟩
theorem q06y {α : Type} (N : Nat) (g_0 : Int) (g_1 g_2 : NI) (K : AV -> Heap -> Option α) :
    callK Try.prog (q06u α N) 1 116 0 (buildS q06w [.i g_0, .f g_1, .f g_2]).t (buildS q06w [.i g_0, .f g_1, .f g_2]).h K = q00h none N g_0 g_1 g_2 (fun r__ => retK (buildS q06x [.b r__]) K) := by kernel_rfl
def q06z (α : Type) (N : Nat) : Env α := (q06u α N).addFun 116 true 0 q06w (fun l K => match l with
    | [.i g_0, .f g_1, .f g_2] => q00h none N g_0 g_1 g_2 (fun r__ => retK (buildS q06x [.b r__]) K)
    | _ => none)
theorem q070 {α : Type} (N : Nat) : EnvOk Try.prog (q06z α N) := (q06v N).addFun q05l q05m (d := 1) fun l K r h => by
  split at h
  · exact (q06y N _ _ _ K).trans h
  · cases h
def q071 (α : Type) (N : Nat) : Env α := (q06z α N).addAnn 189 3 { head := [3, 4, 5, 9, 10], grow := [], out := [4, 5], ret := [4] }
theorem q072 {α : Type} (N : Nat) : EnvOk Try.prog (q071 α N) := (q070 N).addAnn
def q073 : SPat := ⟨[.undef, .undef, .undef, .ptr ⟨⟨1, 0⟩, 0, 0, 8⟩, .ptr ⟨⟨2, 0⟩, 0, 0, 8⟩, .ptr ⟨⟨3, 0⟩, 0, 0, 8⟩, .undef, .undef, .undef, .int .i64, .int .i64] ++ List.replicate 9 .undef, [[.vals [.int .i64], .ints .u8 8, .ints .u8 8], [.ints .u8 8], [.ints .i64 8], [.ints .i64 8]]⟩
def q074 : SPat := ⟨[.undef, .undef, .undef, .undef, .ptr ⟨⟨2, 0⟩, 0, 0, 8⟩, .ptr ⟨⟨3, 0⟩, 0, 0, 8⟩] ++ List.replicate 14 .undef, [[.vals [.int .i64], .ints .u8 8, .ints .u8 8], [.ints .u8 8], [.ints .i64 8], [.ints .i64 8]]⟩
theorem q075 {α : Type} (N : Nat) (t9 t10 h0_0 : Int) (h0_1 h0_2 h1 h2 h3 : NI) (kn : St -> Option α) (K : AExit -> St -> Option α) :
    roundK Try.prog (q071 α N) 1 0 189 Try.f189 3 4 (buildS q073 [.i t9, .i t10, .i h0_0, .f h0_1, .f h0_2, .f h1, .f h2, .f h3]) kn K = q00l none t9 h0_0 h0_1 h0_2 h1 h2 t10 h3 (fun t10 h3 => kn (buildS q073 [.i t9, .i t10, .i h0_0, .f h0_1, .f h0_2, .f h1, .f h2, .f h3])) (fun h3_ => K (.exit 0) (buildS q074 [.i h0_0, .f h0_1, .f h0_2, .f h1, .f h2, .f h3_])) := by kernel_rfl
theorem q076 {α : Type} (N : Nat) (t9 h0_0 : Int) (h0_1 h0_2 h1 h2 : NI) (K : AExit -> St -> Option α) : ∀ (m : Nat) (t10 : Int) (h3 : NI),
    loopN (trimSt ((q071 α N).ann 189 3).head ((q071 α N).ann 189 3).grow 4) (bodyK Try.prog (q071 α N) 1 0 189 Try.f189 3) m (buildS q073 [.i t9, .i t10, .i h0_0, .f h0_1, .f h0_2, .f h1, .f h2, .f h3]) (leaveLoop ((q071 α N).ann 189 3) 4 K) = q00m none t9 h0_0 h0_1 h0_2 h1 h2 m t10 h3 (fun h3_ => K (.exit 0) (buildS q074 [.i h0_0, .f h0_1, .f h0_2, .f h1, .f h2, .f h3_])) := by
  intro m
  induction m with
  | zero => intros; rfl
  | succ m ih =>
    intro t10 h3
    rw [loopN_round]
    refine (q075 N t9 t10 h0_0 h0_1 h0_2 h1 h2 h3 _ K).trans ?_
    simp only [ih]
    rfl
def q077 (α : Type) (N : Nat) : Env α := (q071 α N).addLoop2 189 3 (loopSum2 ((q071 α N).ann 189 3) 0 q073 (fun l K => match l with
    | [.i t9, .i t10, .i h0_0, .f h0_1, .f h0_2, .f h1, .f h2, .f h3] => q00m none t9 h0_0 h0_1 h0_2 h1 h2 N t10 h3 (fun h3_ => K (.exit 0) (buildS q074 [.i h0_0, .f h0_1, .f h0_2, .f h1, .f h2, .f h3_]))
    | _ => none) ((q071 α N).ls 189 3))
theorem q078 {α : Type} (N : Nat) : EnvOk Try.prog (q077 α N) := (q072 N).addLoop2 Try.func189 (by kernel_rfl) (loopSum_ok q05l q05m (q072 N) Try.func189 (by kernel_rfl) (d := 1) (ro := 0) fun l K r h => by
  split at h
  · exact (q076 N _ _ _ _ _ _ K N _ _).trans h
  · cases h)
def q079 : SPat := ⟨[.agg [.vals [.int .i64], .ints .u8 8, .ints .u8 8], .agg [.ints .u8 8]], []⟩
def q07a : SPat := ⟨[.agg [.ints .i64 8]], []⟩
theorem q07b {α : Type} (N : Nat) (g_0 : Int) (g_1 g_2 rows : NI) (K : AV -> Heap -> Option α) :
    callK Try.prog (q077 α N) 1 189 0 (buildS q079 [.i g_0, .f g_1, .f g_2, .f rows]).t (buildS q079 [.i g_0, .f g_1, .f g_2, .f rows]).h K = q00n none N g_0 g_1 g_2 rows (fun r__ => retK (buildS q07a [.f r__]) K) := by kernel_rfl
def q07c (α : Type) (N : Nat) : Env α := (q077 α N).addFun 189 true 0 q079 (fun l K => match l with
    | [.i g_0, .f g_1, .f g_2, .f rows] => q00n none N g_0 g_1 g_2 rows (fun r__ => retK (buildS q07a [.f r__]) K)
    | _ => none)
theorem q07d {α : Type} (N : Nat) : EnvOk Try.prog (q07c α N) := (q078 N).addFun q05l q05m (d := 1) fun l K r h => by
  split at h
  · exact (q07b N _ _ _ _ K).trans h
  · cases h
def q07e (α : Type) (N : Nat) : Env α := (q07c α N).addAnn 154 3 { head := [1, 3, 4, 5, 21, 22], grow := [5], out := [5], ret := [2] }
theorem q07f {α : Type} (N : Nat) : EnvOk Try.prog (q07e α N) := (q07d N).addAnn
def q07g (α : Type) (N : Nat) : Env α := (q07e α N).addAnn 154 6 { head := [1, 3, 4, 5, 6, 21, 22, 26, 27], grow := [5], out := [1, 3, 4, 5, 21, 22], ret := [2] }
theorem q07h {α : Type} (N : Nat) : EnvOk Try.prog (q07g α N) := (q07f N).addAnn
def q07i : SPat := ⟨[.int .i64, .int .i64, .int .i64], []⟩
def q07j : SPat := ⟨[.bool], []⟩
theorem q07k {α : Type} (N : Nat) (x a b : Int) (K : AV -> Heap -> Option α) :
    callK Try.prog (q07g α N) 1 204 0 (buildS q07i [.i x, .i a, .i b]).t (buildS q07i [.i x, .i a, .i b]).h K = q018 none N x a b (fun r__ => retK (buildS q07j [.b r__]) K) := by kernel_rfl
def q07l (α : Type) (N : Nat) : Env α := (q07g α N).addFun 204 true 0 q07i (fun l K => match l with
    | [.i x, .i a, .i b] => q018 none N x a b (fun r__ => retK (buildS q07j [.b r__]) K)
    | _ => none)
theorem q07m {α : Type} (N : Nat) : EnvOk Try.prog (q07l α N) := (q07h N).addFun q05l q05m (d := 1) fun l K r h => by
  split at h
  · exact (q07k N _ _ _ K).trans h
  · cases h
def q07n : SPat := ⟨[.undef, .ptr ⟨⟨0, 0⟩, 0, 0, 1⟩, .undef, .ptr ⟨⟨2, 0⟩, 0, 0, 8⟩, .ptr ⟨⟨3, 0⟩, 0, 0, 8⟩, .sliceV 1 0 0 3 false, .int .i64, .undef, .undef, .undef, .undef, .undef, .undef, .undef, .undef, .undef, .undef, .undef, .undef, .undef, .undef, .int .i64, .int .i64, .undef, .undef, .undef, .int .i64, .int .i64] ++ List.replicate 55 .undef, [[.vals [.int .i64], .ints .u8 8, .ints .u8 8], [.vec .i64], [.ints .i64 8], [.ints .i64 8]]⟩
def q07o : SPat := ⟨[.undef, .ptr ⟨⟨0, 0⟩, 0, 0, 1⟩, .undef, .ptr ⟨⟨2, 0⟩, 0, 0, 8⟩, .ptr ⟨⟨3, 0⟩, 0, 0, 8⟩, .sliceV 1 0 0 3 false, .undef, .undef, .undef, .undef, .undef, .undef, .undef, .undef, .undef, .undef, .undef, .undef, .undef, .undef, .undef, .int .i64, .int .i64] ++ List.replicate 60 .undef, [[.vals [.int .i64], .ints .u8 8, .ints .u8 8], [.vec .i64], [.ints .i64 8], [.ints .i64 8]]⟩
theorem q07p {α : Type} (N t5_n t5_l t5_c : Nat) (t6 t21 t22 t26 t27 h0_0 : Int) (h0_1 h0_2 : NI) (h1 : List Int) (h2 h3 : NI) (kn : St -> Option α) (K : AExit -> St -> Option α) :
    roundK Try.prog (q07l α N) 1 0 154 Try.f154 6 4 (buildS q07n [.n t5_n, .n t5_l, .n t5_c, .i t6, .i t21, .i t22, .i t26, .i t27, .i h0_0, .f h0_1, .f h0_2, .l h1, .f h2, .f h3]) kn K = q019 none N t6 t21 t22 t26 h0_0 h0_1 h0_2 h2 h3 t5_n t5_l t5_c t27 h1 (fun t5_n t5_l t5_c t27 h1 => kn (buildS q07n [.n t5_n, .n t5_l, .n t5_c, .i t6, .i t21, .i t22, .i t26, .i t27, .i h0_0, .f h0_1, .f h0_2, .l h1, .f h2, .f h3])) (fun t5_n_ t5_l_ t5_c_ h1_ => K (.exit 2) (buildS q07o [.n t5_n_, .n t5_l_, .n t5_c_, .i t21, .i t22, .i h0_0, .f h0_1, .f h0_2, .l h1_, .f h2, .f h3])) := by kernel_rfl
theorem q07q {α : Type} (N : Nat) (t6 t21 t22 t26 h0_0 : Int) (h0_1 h0_2 h2 h3 : NI) (K : AExit -> St -> Option α) : ∀ (m t5_n t5_l t5_c : Nat) (t27 : Int) (h1 : List Int),
    loopN (trimSt ((q07l α N).ann 154 6).head ((q07l α N).ann 154 6).grow 4) (bodyK Try.prog (q07l α N) 1 0 154 Try.f154 6) m (buildS q07n [.n t5_n, .n t5_l, .n t5_c, .i t6, .i t21, .i t22, .i t26, .i t27, .i h0_0, .f h0_1, .f h0_2, .l h1, .f h2, .f h3]) (leaveLoop ((q07l α N).ann 154 6) 4 K) = q01a none N t6 t21 t22 t26 h0_0 h0_1 h0_2 h2 h3 m t5_n t5_l t5_c t27 h1 (fun t5_n_ t5_l_ t5_c_ h1_ => K (.exit 2) (buildS q07o [.n t5_n_, .n t5_l_, .n t5_c_, .i t21, .i t22, .i h0_0, .f h0_1, .f h0_2, .l h1_, .f h2, .f h3])) := by
  intro m
  induction m with
  | zero => intros; rfl
  | succ m ih =>
    intro t5_n t5_l t5_c t27 h1
    rw [loopN_round]
    refine (q07p N t5_n t5_l t5_c t6 t21 t22 t26 t27 h0_0 h0_1 h0_2 h1 h2 h3 _ K).trans ?_
    simp only [ih]
    rfl
def q07r (α : Type) (N : Nat) : Env α := (q07l α N).addLoop2 154 6 (loopSum2 ((q07l α N).ann 154 6) 0 q07n (fun l K => match l with
    | [.n t5_n, .n t5_l, .n t5_c, .i t6, .i t21, .i t22, .i t26, .i t27, .i h0_0, .f h0_1, .f h0_2, .l h1, .f h2, .f h3] => q01a none N t6 t21 t22 t26 h0_0 h0_1 h0_2 h2 h3 N t5_n t5_l t5_c t27 h1 (fun t5_n_ t5_l_ t5_c_ h1_ => K (.exit 2) (buildS q07o [.n t5_n_, .n t5_l_, .n t5_c_, .i t21, .i t22, .i h0_0, .f h0_1, .f h0_2, .l h1_, .f h2, .f h3]))
    | _ => none) ((q07l α N).ls 154 6))
theorem q07s {α : Type} (N : Nat) : EnvOk Try.prog (q07r α N) := (q07m N).addLoop2 Try.func154 (by kernel_rfl) (loopSum_ok q05l q05m (q07m N) Try.func154 (by kernel_rfl) (d := 1) (ro := 0) fun l K r h => by
  split at h
  · exact (q07q N _ _ _ _ _ _ _ _ _ K N _ _ _ _ _).trans h
  · cases h)
def q07t : SPat := ⟨[.undef, .ptr ⟨⟨0, 0⟩, 0, 0, 1⟩, .undef, .ptr ⟨⟨2, 0⟩, 0, 0, 8⟩, .ptr ⟨⟨3, 0⟩, 0, 0, 8⟩, .sliceV 1 0 0 3 false, .undef, .undef, .undef, .undef, .undef, .undef, .undef, .undef, .undef, .undef, .undef, .undef, .undef, .undef, .undef, .int .i64, .int .i64] ++ List.replicate 60 .undef, [[.vals [.int .i64], .ints .u8 8, .ints .u8 8], [.vec .i64], [.ints .i64 8], [.ints .i64 8]]⟩
def q07u : SPat := ⟨[.undef, .undef, .undef, .undef, .undef, .sliceV 1 0 0 3 false] ++ List.replicate 77 .undef, [[.vals [.int .i64], .ints .u8 8, .ints .u8 8], [.vec .i64], [.ints .i64 8], [.ints .i64 8]]⟩
theorem q07v {α : Type} (N t5_n t5_l t5_c : Nat) (t21 t22 h0_0 : Int) (h0_1 h0_2 : NI) (h1 : List Int) (h2 h3 : NI) (kn : St -> Option α) (K : AExit -> St -> Option α) :
    roundK Try.prog (q07r α N) 1 0 154 Try.f154 3 4 (buildS q07t [.n t5_n, .n t5_l, .n t5_c, .i t21, .i t22, .i h0_0, .f h0_1, .f h0_2, .l h1, .f h2, .f h3]) kn K = q01b none N t21 h0_0 h0_1 h0_2 h2 h3 t5_n t5_l t5_c t22 h1 (fun t5_n t5_l t5_c t22 h1 => kn (buildS q07t [.n t5_n, .n t5_l, .n t5_c, .i t21, .i t22, .i h0_0, .f h0_1, .f h0_2, .l h1, .f h2, .f h3])) (fun t5_n_ t5_l_ t5_c_ h1_ => K (.exit 0) (buildS q07u [.n t5_n_, .n t5_l_, .n t5_c_, .i h0_0, .f h0_1, .f h0_2, .l h1_, .f h2, .f h3])) := by kernel_rfl
theorem q07w {α : Type} (N : Nat) (t21 h0_0 : Int) (h0_1 h0_2 h2 h3 : NI) (K : AExit -> St -> Option α) : ∀ (m t5_n t5_l t5_c : Nat) (t22 : Int) (h1 : List Int),
    loopN (trimSt ((q07r α N).ann 154 3).head ((q07r α N).ann 154 3).grow 4) (bodyK Try.prog (q07r α N) 1 0 154 Try.f154 3) m (buildS q07t [.n t5_n, .n t5_l, .n t5_c, .i t21, .i t22, .i h0_0, .f h0_1, .f h0_2, .l h1, .f h2, .f h3]) (leaveLoop ((q07r α N).ann 154 3) 4 K) = q01c none N t21 h0_0 h0_1 h0_2 h2 h3 m t5_n t5_l t5_c t22 h1 (fun t5_n_ t5_l_ t5_c_ h1_ => K (.exit 0) (buildS q07u [.n t5_n_, .n t5_l_, .n t5_c_, .i h0_0, .f h0_1, .f h0_2, .l h1_, .f h2, .f h3])) := by
  intro m
  induction m with
  | zero => intros; rfl
  | succ m ih =>
    intro t5_n t5_l t5_c t22 h1
    rw [loopN_round]
    refine (q07v N t5_n t5_l t5_c t21 t22 h0_0 h0_1 h0_2 h1 h2 h3 _ K).trans ?_
    simp only [ih]
    rfl
def q07x (α : Type) (N : Nat) : Env α := (q07r α N).addLoop2 154 3 (loopSum2 ((q07r α N).ann 154 3) 0 q07t (fun l K => match l with
    | [.n t5_n, .n t5_l, .n t5_c, .i t21, .i t22, .i h0_0, .f h0_1, .f h0_2, .l h1, .f h2, .f h3] => q01c none N t21 h0_0 h0_1 h0_2 h2 h3 N t5_n t5_l t5_c t22 h1 (fun t5_n_ t5_l_ t5_c_ h1_ => K (.exit 0) (buildS q07u [.n t5_n_, .n t5_l_, .n t5_c_, .i h0_0, .f h0_1, .f h0_2, .l h1_, .f h2, .f h3]))
    | _ => none) ((q07r α N).ls 154 3))
theorem q07y {α : Type} (N : Nat) : EnvOk Try.prog (q07x α N) := (q07s N).addLoop2 Try.func154 (by kernel_rfl) (loopSum_ok q05l q05m (q07s N) Try.func154 (by kernel_rfl) (d := 1) (ro := 0) fun l K r h => by
  split at h
  · exact (q07w N _ _ _ _ _ _ K N _ _ _ _ _).trans h
  · cases h)
def q07z : SPat := ⟨[.agg [.vals [.int .i64], .ints .u8 8, .ints .u8 8]], []⟩
def q080 : SPat := ⟨[.sliceV 0 0 0 3 false], [[.vec .i64]]⟩
theorem q081 {α : Type} (N : Nat) (g_0 : Int) (g_1 g_2 : NI) (K : AV -> Heap -> Option α) :
    callK Try.prog (q07x α N) 1 154 0 (buildS q07z [.i g_0, .f g_1, .f g_2]).t (buildS q07z [.i g_0, .f g_1, .f g_2]).h K = q01d none N g_0 g_1 g_2 (fun r_n_ r_l_ r_c_ h0_ => retK (buildS q080 [.n r_n_, .n r_l_, .n r_c_, .l h0_]) K) := by kernel_rfl
def q082 (α : Type) (N : Nat) : Env α := (q07x α N).addFun 154 true 0 q07z (fun l K => match l with
    | [.i g_0, .f g_1, .f g_2] => q01d none N g_0 g_1 g_2 (fun r_n_ r_l_ r_c_ h0_ => retK (buildS q080 [.n r_n_, .n r_l_, .n r_c_, .l h0_]) K)
    | _ => none)
theorem q083 {α : Type} (N : Nat) : EnvOk Try.prog (q082 α N) := (q07y N).addFun q05l q05m (d := 1) fun l K r h => by
  split at h
  · exact (q081 N _ _ _ K).trans h
  · cases h
def q084 (α : Type) (N : Nat) : Env α := (q082 α N).addAnn 168 3 { head := [1, 3, 4, 5, 16, 17], grow := [5], out := [5], ret := [2] }
theorem q085 {α : Type} (N : Nat) : EnvOk Try.prog (q084 α N) := (q083 N).addAnn
def q086 (α : Type) (N : Nat) : Env α := (q084 α N).addAnn 168 8 { head := [1, 3, 4, 5, 7, 8, 16, 17], grow := [7], out := [1, 3, 4, 5, 7, 16, 17], ret := [2] }
theorem q087 {α : Type} (N : Nat) : EnvOk Try.prog (q086 α N) := (q085 N).addAnn
def q088 : SPat := ⟨[.undef, .ptr ⟨⟨0, 0⟩, 0, 0, 1⟩, .undef, .ptr ⟨⟨3, 0⟩, 0, 0, 8⟩, .ptr ⟨⟨4, 0⟩, 0, 0, 8⟩, .sliceV 2 0 0 1 false, .undef, .sliceV 5 0 0 1 false, .int .i64, .undef, .undef, .undef, .undef, .undef, .undef, .undef, .int .i64, .int .i64] ++ List.replicate 29 .undef, [[.vals [.int .i64], .ints .u8 8, .ints .u8 8], [.pool .i64], [.hdr 1], [.ints .i64 8], [.bools 8], [.vec .i64]]⟩
def q089 : SPat := ⟨[.undef, .ptr ⟨⟨0, 0⟩, 0, 0, 1⟩, .undef, .ptr ⟨⟨3, 0⟩, 0, 0, 8⟩, .ptr ⟨⟨4, 0⟩, 0, 0, 8⟩, .sliceV 2 0 0 1 false, .undef, .sliceV 5 0 0 1 false, .undef, .undef, .undef, .undef, .undef, .undef, .undef, .undef, .int .i64, .int .i64] ++ List.replicate 29 .undef, [[.vals [.int .i64], .ints .u8 8, .ints .u8 8], [.pool .i64], [.hdr 1], [.ints .i64 8], [.bools 8], [.vec .i64]]⟩
theorem q08a {α : Type} (N out_n out_l out_c walk_n walk_l walk_c : Nat) (k t16 t17 h0_0 : Int) (h0_1 h0_2 : NI) (h1 : List (List Int)) (h2 : List (Nat × Nat)) (h3 : NI) (h4 : Nat -> Bool) (h5 : List Int) (kn : St -> Option α) (K : AExit -> St -> Option α) :
    roundK Try.prog (q086 α N) 1 0 168 Try.f168 8 6 (buildS q088 [.n out_n, .n out_l, .n out_c, .n walk_n, .n walk_l, .n walk_c, .i k, .i t16, .i t17, .i h0_0, .f h0_1, .f h0_2, .r h1, .p h2, .f h3, .g h4, .l h5]) kn K = q024 none out_n out_l out_c t16 t17 h0_0 h0_1 h0_2 h1 h2 h3 walk_n walk_l walk_c k h4 h5 (fun walk_n walk_l walk_c k h4 h5 => kn (buildS q088 [.n out_n, .n out_l, .n out_c, .n walk_n, .n walk_l, .n walk_c, .i k, .i t16, .i t17, .i h0_0, .f h0_1, .f h0_2, .r h1, .p h2, .f h3, .g h4, .l h5])) (fun walk_n_ walk_l_ walk_c_ h4_ h5_ => K (.exit 2) (buildS q089 [.n out_n, .n out_l, .n out_c, .n walk_n_, .n walk_l_, .n walk_c_, .i t16, .i t17, .i h0_0, .f h0_1, .f h0_2, .r h1, .p h2, .f h3, .g h4_, .l h5_])) := by kernel_rfl
theorem q08b {α : Type} (N out_n out_l out_c : Nat) (t16 t17 h0_0 : Int) (h0_1 h0_2 : NI) (h1 : List (List Int)) (h2 : List (Nat × Nat)) (h3 : NI) (K : AExit -> St -> Option α) : ∀ (m walk_n walk_l walk_c : Nat) (k : Int) (h4 : Nat -> Bool) (h5 : List Int),
    loopN (trimSt ((q086 α N).ann 168 8).head ((q086 α N).ann 168 8).grow 6) (bodyK Try.prog (q086 α N) 1 0 168 Try.f168 8) m (buildS q088 [.n out_n, .n out_l, .n out_c, .n walk_n, .n walk_l, .n walk_c, .i k, .i t16, .i t17, .i h0_0, .f h0_1, .f h0_2, .r h1, .p h2, .f h3, .g h4, .l h5]) (leaveLoop ((q086 α N).ann 168 8) 6 K) = q025 none out_n out_l out_c t16 t17 h0_0 h0_1 h0_2 h1 h2 h3 m walk_n walk_l walk_c k h4 h5 (fun walk_n_ walk_l_ walk_c_ h4_ h5_ => K (.exit 2) (buildS q089 [.n out_n, .n out_l, .n out_c, .n walk_n_, .n walk_l_, .n walk_c_, .i t16, .i t17, .i h0_0, .f h0_1, .f h0_2, .r h1, .p h2, .f h3, .g h4_, .l h5_])) := by
  intro m
  induction m with
  | zero => intros; rfl
  | succ m ih =>
    intro walk_n walk_l walk_c k h4 h5
    rw [loopN_round]
    refine (q08a N out_n out_l out_c walk_n walk_l walk_c k t16 t17 h0_0 h0_1 h0_2 h1 h2 h3 h4 h5 _ K).trans ?_
    simp only [ih]
    rfl
def q08c (α : Type) (N : Nat) : Env α := (q086 α N).addLoop2 168 8 (loopSum2 ((q086 α N).ann 168 8) 0 q088 (fun l K => match l with
    | [.n out_n, .n out_l, .n out_c, .n walk_n, .n walk_l, .n walk_c, .i k, .i t16, .i t17, .i h0_0, .f h0_1, .f h0_2, .r h1, .p h2, .f h3, .g h4, .l h5] => q025 none out_n out_l out_c t16 t17 h0_0 h0_1 h0_2 h1 h2 h3 N walk_n walk_l walk_c k h4 h5 (fun walk_n_ walk_l_ walk_c_ h4_ h5_ => K (.exit 2) (buildS q089 [.n out_n, .n out_l, .n out_c, .n walk_n_, .n walk_l_, .n walk_c_, .i t16, .i t17, .i h0_0, .f h0_1, .f h0_2, .r h1, .p h2, .f h3, .g h4_, .l h5_]))
    | _ => none) ((q086 α N).ls 168 8))
theorem q08d {α : Type} (N : Nat) : EnvOk Try.prog (q08c α N) := (q087 N).addLoop2 Try.func168 (by kernel_rfl) (loopSum_ok q05l q05m (q087 N) Try.func168 (by kernel_rfl) (d := 1) (ro := 0) fun l K r h => by
  split at h
  · exact (q08b N _ _ _ _ _ _ _ _ _ _ _ K N _ _ _ _ _ _).trans h
  · cases h)
def q08e : SPat := ⟨[.undef, .ptr ⟨⟨0, 0⟩, 0, 0, 1⟩, .undef, .ptr ⟨⟨3, 0⟩, 0, 0, 8⟩, .ptr ⟨⟨4, 0⟩, 0, 0, 8⟩, .sliceV 2 0 0 1 false, .undef, .undef, .undef, .undef, .undef, .undef, .undef, .undef, .undef, .undef, .int .i64, .int .i64] ++ List.replicate 29 .undef, [[.vals [.int .i64], .ints .u8 8, .ints .u8 8], [.pool .i64], [.hdr 1], [.ints .i64 8], [.bools 8]]⟩
def q08f : SPat := ⟨[.undef, .undef, .undef, .undef, .undef, .sliceV 2 0 0 1 false] ++ List.replicate 41 .undef, [[.vals [.int .i64], .ints .u8 8, .ints .u8 8], [.pool .i64], [.hdr 1], [.ints .i64 8], [.bools 8]]⟩
theorem q08g {α : Type} (N out_n out_l out_c : Nat) (t16 t17 h0_0 : Int) (h0_1 h0_2 : NI) (h1 : List (List Int)) (h2 : List (Nat × Nat)) (h3 : NI) (h4 : Nat -> Bool) (kn : St -> Option α) (K : AExit -> St -> Option α) :
    roundK Try.prog (q08c α N) 1 0 168 Try.f168 3 5 (buildS q08e [.n out_n, .n out_l, .n out_c, .i t16, .i t17, .i h0_0, .f h0_1, .f h0_2, .r h1, .p h2, .f h3, .g h4]) kn K = q026 none N t16 h0_0 h0_1 h0_2 h3 out_n out_l out_c t17 h1 h2 h4 (fun out_n out_l out_c t17 h1 h2 h4 => kn (buildS q08e [.n out_n, .n out_l, .n out_c, .i t16, .i t17, .i h0_0, .f h0_1, .f h0_2, .r h1, .p h2, .f h3, .g h4])) (fun out_n_ out_l_ out_c_ h1_ h2_ h4_ => K (.exit 0) (buildS q08f [.n out_n_, .n out_l_, .n out_c_, .i h0_0, .f h0_1, .f h0_2, .r h1_, .p h2_, .f h3, .g h4_])) := by kernel_rfl
theorem q08h {α : Type} (N : Nat) (t16 h0_0 : Int) (h0_1 h0_2 h3 : NI) (K : AExit -> St -> Option α) : ∀ (m out_n out_l out_c : Nat) (t17 : Int) (h1 : List (List Int)) (h2 : List (Nat × Nat)) (h4 : Nat -> Bool),
    loopN (trimSt ((q08c α N).ann 168 3).head ((q08c α N).ann 168 3).grow 5) (bodyK Try.prog (q08c α N) 1 0 168 Try.f168 3) m (buildS q08e [.n out_n, .n out_l, .n out_c, .i t16, .i t17, .i h0_0, .f h0_1, .f h0_2, .r h1, .p h2, .f h3, .g h4]) (leaveLoop ((q08c α N).ann 168 3) 5 K) = q027 none N t16 h0_0 h0_1 h0_2 h3 m out_n out_l out_c t17 h1 h2 h4 (fun out_n_ out_l_ out_c_ h1_ h2_ h4_ => K (.exit 0) (buildS q08f [.n out_n_, .n out_l_, .n out_c_, .i h0_0, .f h0_1, .f h0_2, .r h1_, .p h2_, .f h3, .g h4_])) := by
  intro m
  induction m with
  | zero => intros; rfl
  | succ m ih =>
    intro out_n out_l out_c t17 h1 h2 h4
    rw [loopN_round]
    refine (q08g N out_n out_l out_c t16 t17 h0_0 h0_1 h0_2 h1 h2 h3 h4 _ K).trans ?_
    simp only [ih]
    rfl
def q08i (α : Type) (N : Nat) : Env α := (q08c α N).addLoop2 168 3 (loopSum2 ((q08c α N).ann 168 3) 0 q08e (fun l K => match l with
    | [.n out_n, .n out_l, .n out_c, .i t16, .i t17, .i h0_0, .f h0_1, .f h0_2, .r h1, .p h2, .f h3, .g h4] => q027 none N t16 h0_0 h0_1 h0_2 h3 N out_n out_l out_c t17 h1 h2 h4 (fun out_n_ out_l_ out_c_ h1_ h2_ h4_ => K (.exit 0) (buildS q08f [.n out_n_, .n out_l_, .n out_c_, .i h0_0, .f h0_1, .f h0_2, .r h1_, .p h2_, .f h3, .g h4_]))
    | _ => none) ((q08c α N).ls 168 3))
theorem q08j {α : Type} (N : Nat) : EnvOk Try.prog (q08i α N) := (q08d N).addLoop2 Try.func168 (by kernel_rfl) (loopSum_ok q05l q05m (q08d N) Try.func168 (by kernel_rfl) (d := 1) (ro := 0) fun l K r h => by
  split at h
  · exact (q08h N _ _ _ _ _ K N _ _ _ _ _ _ _).trans h
  · cases h)
def q08k : SPat := ⟨[.agg [.vals [.int .i64], .ints .u8 8, .ints .u8 8]], []⟩
def q08l : SPat := ⟨[.sliceV 0 0 0 1 false], [[.hdr 1], [.pool .i64]]⟩
theorem q08m {α : Type} (N : Nat) (g_0 : Int) (g_1 g_2 : NI) (K : AV -> Heap -> Option α) :
    callK Try.prog (q08i α N) 1 168 0 (buildS q08k [.i g_0, .f g_1, .f g_2]).t (buildS q08k [.i g_0, .f g_1, .f g_2]).h K = q028 none N g_0 g_1 g_2 (fun r_n_ r_l_ r_c_ h0_ h1_ => retK (buildS q08l [.n r_n_, .n r_l_, .n r_c_, .p h0_, .r h1_]) K) := by kernel_rfl
def q08n (α : Type) (N : Nat) : Env α := (q08i α N).addFun 168 true 0 q08k (fun l K => match l with
    | [.i g_0, .f g_1, .f g_2] => q028 none N g_0 g_1 g_2 (fun r_n_ r_l_ r_c_ h0_ h1_ => retK (buildS q08l [.n r_n_, .n r_l_, .n r_c_, .p h0_, .r h1_]) K)
    | _ => none)
theorem q08o {α : Type} (N : Nat) : EnvOk Try.prog (q08n α N) := (q08j N).addFun q05l q05m (d := 1) fun l K r h => by
  split at h
  · exact (q08m N _ _ _ K).trans h
  · cases h
def q08p (α : Type) (N : Nat) : Env α := (q08n α N).addAnn 158 3 { head := [1, 3, 4, 5, 24, 25, 26], grow := [5], out := [5], ret := [2] }
theorem q08q {α : Type} (N : Nat) : EnvOk Try.prog (q08p α N) := (q08o N).addAnn
def q08r (α : Type) (N : Nat) : Env α := (q08p α N).addAnn 158 7 { head := [1, 3, 4, 5, 8, 24, 25, 26, 31, 32, 33], grow := [8], out := [1, 3, 4, 5, 8, 24, 25, 26], ret := [2] }
theorem q08s {α : Type} (N : Nat) : EnvOk Try.prog (q08r α N) := (q08q N).addAnn
def q08t (α : Type) (N : Nat) : Env α := (q08r α N).addAnn 158 12 { head := [1, 3, 4, 5, 8, 10, 11, 12, 13, 24, 25, 26, 31, 32, 33, 44, 45, 46], grow := [12, 13], out := [1, 3, 4, 5, 8, 10, 11, 12, 13, 24, 25, 26, 31, 32, 33], ret := [2] }
theorem q08u {α : Type} (N : Nat) : EnvOk Try.prog (q08t α N) := (q08s N).addAnn
def q08v : SPat := ⟨[.undef, .ptr ⟨⟨0, 0⟩, 0, 0, 1⟩, .undef, .sliceV 1 0 0 3 false, .ptr ⟨⟨4, 0⟩, 0, 0, 8⟩, .sliceV 3 0 0 1 false, .undef, .undef, .sliceR 2 1 false, .undef, .int .i64, .int .i64, .sliceV 8 0 0 1 false, .sliceV 9 0 0 1 false, .undef, .undef, .undef, .undef, .undef, .undef, .undef, .undef, .undef, .undef, .sliceV 5 0 0 1 false, .int .i64, .int .i64, .undef, .undef, .undef, .undef, .sliceR 6 1 false, .int .i64, .int .i64, .undef, .undef, .undef, .undef, .undef, .undef, .undef, .undef, .undef, .undef, .sliceV 1 0 0 3 false, .int .i64, .int .i64] ++ List.replicate 54 .undef, [[.vals [.int .i64], .ints .u8 8, .ints .u8 8], [.vec .i64], [.pool .i64], [.hdr 2], [.ints .i64 8], [.hdr 6], [.pool .i64], [.vec .i64], [.vec .i64], [.vec .i64]]⟩
def q08w : SPat := ⟨[.undef, .ptr ⟨⟨0, 0⟩, 0, 0, 1⟩, .undef, .sliceV 1 0 0 3 false, .ptr ⟨⟨4, 0⟩, 0, 0, 8⟩, .sliceV 3 0 0 1 false, .undef, .undef, .sliceR 2 1 false, .undef, .int .i64, .int .i64, .sliceV 8 0 0 1 false, .sliceV 9 0 0 1 false, .undef, .undef, .undef, .undef, .undef, .undef, .undef, .undef, .undef, .undef, .sliceV 5 0 0 1 false, .int .i64, .int .i64, .undef, .undef, .undef, .undef, .sliceR 6 1 false, .int .i64, .int .i64] ++ List.replicate 67 .undef, [[.vals [.int .i64], .ints .u8 8, .ints .u8 8], [.vec .i64], [.pool .i64], [.hdr 2], [.ints .i64 8], [.hdr 6], [.pool .i64], [.vec .i64], [.vec .i64], [.vec .i64]]⟩
theorem q08x {α : Type} (N t3_n t3_l t3_c t5_n t5_l t5_c t8_r t8_o t8_n t8_l t8_c : Nat) (t10 t11 : Int) (t12_n t12_l t12_c t13_n t13_l t13_c t24_n t24_l t24_c : Nat) (t25 t26 : Int) (t31_r t31_o t31_n t31_l t31_c : Nat) (t32 t33 : Int) (t44_n t44_l t44_c : Nat) (t45 t46 h0_0 : Int) (h0_1 h0_2 : NI) (h1 : List Int) (h2 : List (List Int)) (h3 : List (Nat × Nat)) (h4 : NI) (h5 : List (Nat × Nat)) (h6 : List (List Int)) (h7 h8 h9 : List Int) (kn : St -> Option α) (K : AExit -> St -> Option α) :
    roundK Try.prog (q08t α N) 1 0 158 Try.f158 12 10 (buildS q08v (.n t3_n :: .n t3_l :: .n t3_c :: .n t5_n :: .n t5_l :: .n t5_c :: .n t8_r :: .n t8_o :: .n t8_n :: .n t8_l :: .n t8_c :: .i t10 :: .i t11 :: .n t12_n :: .n t12_l :: .n t12_c :: .n t13_n :: .n t13_l :: .n t13_c :: .n t24_n :: .n t24_l :: .n t24_c :: .i t25 :: .i t26 :: .n t31_r :: .n t31_o :: .n t31_n :: .n t31_l :: .n t31_c :: .i t32 :: .i t33 :: .n t44_n :: .n t44_l :: .n t44_c :: .i t45 :: .i t46 :: .i h0_0 :: .f h0_1 :: .f h0_2 :: .l h1 :: .r h2 :: .p h3 :: .f h4 :: .p h5 :: .r h6 :: .l h7 :: .l h8 :: .l h9 :: [])) kn K = q037 none t3_n t3_l t3_c t5_n t5_l t5_c t8_r t8_o t8_n t8_l t8_c t10 t11 t24_n t24_l t24_c t25 t26 t31_r t31_o t31_n t31_l t31_c t32 t33 t44_n t44_l t44_c t45 h0_0 h0_1 h0_2 h1 h2 h3 h4 h5 h6 h7 t12_n t12_l t12_c t13_n t13_l t13_c t46 h8 h9 (fun t12_n t12_l t12_c t13_n t13_l t13_c t46 h8 h9 => kn (buildS q08v (.n t3_n :: .n t3_l :: .n t3_c :: .n t5_n :: .n t5_l :: .n t5_c :: .n t8_r :: .n t8_o :: .n t8_n :: .n t8_l :: .n t8_c :: .i t10 :: .i t11 :: .n t12_n :: .n t12_l :: .n t12_c :: .n t13_n :: .n t13_l :: .n t13_c :: .n t24_n :: .n t24_l :: .n t24_c :: .i t25 :: .i t26 :: .n t31_r :: .n t31_o :: .n t31_n :: .n t31_l :: .n t31_c :: .i t32 :: .i t33 :: .n t44_n :: .n t44_l :: .n t44_c :: .i t45 :: .i t46 :: .i h0_0 :: .f h0_1 :: .f h0_2 :: .l h1 :: .r h2 :: .p h3 :: .f h4 :: .p h5 :: .r h6 :: .l h7 :: .l h8 :: .l h9 :: []))) (fun t12_n_ t12_l_ t12_c_ t13_n_ t13_l_ t13_c_ h8_ h9_ => K (.exit 4) (buildS q08w (.n t3_n :: .n t3_l :: .n t3_c :: .n t5_n :: .n t5_l :: .n t5_c :: .n t8_r :: .n t8_o :: .n t8_n :: .n t8_l :: .n t8_c :: .i t10 :: .i t11 :: .n t12_n_ :: .n t12_l_ :: .n t12_c_ :: .n t13_n_ :: .n t13_l_ :: .n t13_c_ :: .n t24_n :: .n t24_l :: .n t24_c :: .i t25 :: .i t26 :: .n t31_r :: .n t31_o :: .n t31_n :: .n t31_l :: .n t31_c :: .i t32 :: .i t33 :: .i h0_0 :: .f h0_1 :: .f h0_2 :: .l h1 :: .r h2 :: .p h3 :: .f h4 :: .p h5 :: .r h6 :: .l h7 :: .l h8_ :: .l h9_ :: []))) := by kernel_rfl
theorem q08y {α : Type} (N t3_n t3_l t3_c t5_n t5_l t5_c t8_r t8_o t8_n t8_l t8_c : Nat) (t10 t11 : Int) (t24_n t24_l t24_c : Nat) (t25 t26 : Int) (t31_r t31_o t31_n t31_l t31_c : Nat) (t32 t33 : Int) (t44_n t44_l t44_c : Nat) (t45 h0_0 : Int) (h0_1 h0_2 : NI) (h1 : List Int) (h2 : List (List Int)) (h3 : List (Nat × Nat)) (h4 : NI) (h5 : List (Nat × Nat)) (h6 : List (List Int)) (h7 : List Int) (K : AExit -> St -> Option α) : ∀ (m t12_n t12_l t12_c t13_n t13_l t13_c : Nat) (t46 : Int) (h8 h9 : List Int),
    loopN (trimSt ((q08t α N).ann 158 12).head ((q08t α N).ann 158 12).grow 10) (bodyK Try.prog (q08t α N) 1 0 158 Try.f158 12) m (buildS q08v (.n t3_n :: .n t3_l :: .n t3_c :: .n t5_n :: .n t5_l :: .n t5_c :: .n t8_r :: .n t8_o :: .n t8_n :: .n t8_l :: .n t8_c :: .i t10 :: .i t11 :: .n t12_n :: .n t12_l :: .n t12_c :: .n t13_n :: .n t13_l :: .n t13_c :: .n t24_n :: .n t24_l :: .n t24_c :: .i t25 :: .i t26 :: .n t31_r :: .n t31_o :: .n t31_n :: .n t31_l :: .n t31_c :: .i t32 :: .i t33 :: .n t44_n :: .n t44_l :: .n t44_c :: .i t45 :: .i t46 :: .i h0_0 :: .f h0_1 :: .f h0_2 :: .l h1 :: .r h2 :: .p h3 :: .f h4 :: .p h5 :: .r h6 :: .l h7 :: .l h8 :: .l h9 :: [])) (leaveLoop ((q08t α N).ann 158 12) 10 K) = q038 none t3_n t3_l t3_c t5_n t5_l t5_c t8_r t8_o t8_n t8_l t8_c t10 t11 t24_n t24_l t24_c t25 t26 t31_r t31_o t31_n t31_l t31_c t32 t33 t44_n t44_l t44_c t45 h0_0 h0_1 h0_2 h1 h2 h3 h4 h5 h6 h7 m t12_n t12_l t12_c t13_n t13_l t13_c t46 h8 h9 (fun t12_n_ t12_l_ t12_c_ t13_n_ t13_l_ t13_c_ h8_ h9_ => K (.exit 4) (buildS q08w (.n t3_n :: .n t3_l :: .n t3_c :: .n t5_n :: .n t5_l :: .n t5_c :: .n t8_r :: .n t8_o :: .n t8_n :: .n t8_l :: .n t8_c :: .i t10 :: .i t11 :: .n t12_n_ :: .n t12_l_ :: .n t12_c_ :: .n t13_n_ :: .n t13_l_ :: .n t13_c_ :: .n t24_n :: .n t24_l :: .n t24_c :: .i t25 :: .i t26 :: .n t31_r :: .n t31_o :: .n t31_n :: .n t31_l :: .n t31_c :: .i t32 :: .i t33 :: .i h0_0 :: .f h0_1 :: .f h0_2 :: .l h1 :: .r h2 :: .p h3 :: .f h4 :: .p h5 :: .r h6 :: .l h7 :: .l h8_ :: .l h9_ :: []))) := by
  intro m
  induction m with
  | zero => intros; rfl
  | succ m ih =>
    intro t12_n t12_l t12_c t13_n t13_l t13_c t46 h8 h9
    rw [loopN_round]
    refine (q08x N t3_n t3_l t3_c t5_n t5_l t5_c t8_r t8_o t8_n t8_l t8_c t10 t11 t12_n t12_l t12_c t13_n t13_l t13_c t24_n t24_l t24_c t25 t26 t31_r t31_o t31_n t31_l t31_c t32 t33 t44_n t44_l t44_c t45 t46 h0_0 h0_1 h0_2 h1 h2 h3 h4 h5 h6 h7 h8 h9 _ K).trans ?_
    simp only [ih]
    rfl
def q08z (α : Type) (N : Nat) : Env α := (q08t α N).addLoop2 158 12 (loopSum2 ((q08t α N).ann 158 12) 0 q08v (fun l K => match l with
    | (.n t3_n :: .n t3_l :: .n t3_c :: .n t5_n :: .n t5_l :: .n t5_c :: .n t8_r :: .n t8_o :: .n t8_n :: .n t8_l :: .n t8_c :: .i t10 :: .i t11 :: .n t12_n :: .n t12_l :: .n t12_c :: .n t13_n :: .n t13_l :: .n t13_c :: .n t24_n :: .n t24_l :: .n t24_c :: .i t25 :: .i t26 :: .n t31_r :: .n t31_o :: .n t31_n :: .n t31_l :: .n t31_c :: .i t32 :: .i t33 :: .n t44_n :: .n t44_l :: .n t44_c :: .i t45 :: .i t46 :: .i h0_0 :: .f h0_1 :: .f h0_2 :: .l h1 :: .r h2 :: .p h3 :: .f h4 :: .p h5 :: .r h6 :: .l h7 :: .l h8 :: .l h9 :: []) => q038 none t3_n t3_l t3_c t5_n t5_l t5_c t8_r t8_o t8_n t8_l t8_c t10 t11 t24_n t24_l t24_c t25 t26 t31_r t31_o t31_n t31_l t31_c t32 t33 t44_n t44_l t44_c t45 h0_0 h0_1 h0_2 h1 h2 h3 h4 h5 h6 h7 N t12_n t12_l t12_c t13_n t13_l t13_c t46 h8 h9 (fun t12_n_ t12_l_ t12_c_ t13_n_ t13_l_ t13_c_ h8_ h9_ => K (.exit 4) (buildS q08w (.n t3_n :: .n t3_l :: .n t3_c :: .n t5_n :: .n t5_l :: .n t5_c :: .n t8_r :: .n t8_o :: .n t8_n :: .n t8_l :: .n t8_c :: .i t10 :: .i t11 :: .n t12_n_ :: .n t12_l_ :: .n t12_c_ :: .n t13_n_ :: .n t13_l_ :: .n t13_c_ :: .n t24_n :: .n t24_l :: .n t24_c :: .i t25 :: .i t26 :: .n t31_r :: .n t31_o :: .n t31_n :: .n t31_l :: .n t31_c :: .i t32 :: .i t33 :: .i h0_0 :: .f h0_1 :: .f h0_2 :: .l h1 :: .r h2 :: .p h3 :: .f h4 :: .p h5 :: .r h6 :: .l h7 :: .l h8_ :: .l h9_ :: [])))
    | _ => none) ((q08t α N).ls 158 12))
theorem q090 {α : Type} (N : Nat) : EnvOk Try.prog (q08z α N) := (q08u N).addLoop2 Try.func158 (by kernel_rfl) (loopSum_ok q05l q05m (q08u N) Try.func158 (by kernel_rfl) (d := 1) (ro := 0) fun l K r h => by
  split at h
  · exact (q08y N _ _ _ _ _ _ _ _ _ _ _ _ _ _ _ _ _ _ _ _ _ _ _ _ _ _ _ _ _ _ _ _ _ _ _ _ _ _ _ K N _ _ _ _ _ _ _ _ _).trans h
  · cases h)
def q091 (α : Type) (N : Nat) : Env α := (q08z α N).addAnn 206 1 { head := [0, 2, 3], grow := [], out := [], ret := [] }
theorem q092 {α : Type} (N : Nat) : EnvOk Try.prog (q091 α N) := (q090 N).addAnn
def q093 : SPat := ⟨[.sliceV 0 0 0 1 false, .undef, .int .i64, .int .i64] ++ List.replicate 24 .undef, [[.vec .i64]]⟩
def q094 : SPat := ⟨[] ++ List.replicate 28 .undef, [[.vec .i64]]⟩
theorem q095 {α : Type} (N s_n s_l s_c : Nat) (i j : Int) (h0 : List Int) (kn : St -> Option α) (K : AExit -> St -> Option α) :
    roundK Try.prog (q091 α N) 1 0 206 Try.f206 1 1 (buildS q093 [.n s_n, .n s_l, .n s_c, .i i, .i j, .l h0]) kn K = q039 none s_n s_l s_c i j h0 (fun i j h0 => kn (buildS q093 [.n s_n, .n s_l, .n s_c, .i i, .i j, .l h0])) (fun h0_ => K (.exit 0) (buildS q094 [.l h0_])) := by kernel_rfl
theorem q096 {α : Type} (N s_n s_l s_c : Nat) (K : AExit -> St -> Option α) : ∀ (m : Nat) (i j : Int) (h0 : List Int),
    loopN (trimSt ((q091 α N).ann 206 1).head ((q091 α N).ann 206 1).grow 1) (bodyK Try.prog (q091 α N) 1 0 206 Try.f206 1) m (buildS q093 [.n s_n, .n s_l, .n s_c, .i i, .i j, .l h0]) (leaveLoop ((q091 α N).ann 206 1) 1 K) = q03a none s_n s_l s_c m i j h0 (fun h0_ => K (.exit 0) (buildS q094 [.l h0_])) := by
  intro m
  induction m with
  | zero => intros; rfl
  | succ m ih =>
    intro i j h0
    rw [loopN_round]
    refine (q095 N s_n s_l s_c i j h0 _ K).trans ?_
    simp only [ih]
    rfl
def q097 (α : Type) (N : Nat) : Env α := (q091 α N).addLoop2 206 1 (loopSum2 ((q091 α N).ann 206 1) 0 q093 (fun l K => match l with
    | [.n s_n, .n s_l, .n s_c, .i i, .i j, .l h0] => q03a none s_n s_l s_c N i j h0 (fun h0_ => K (.exit 0) (buildS q094 [.l h0_]))
    | _ => none) ((q091 α N).ls 206 1))
theorem q098 {α : Type} (N : Nat) : EnvOk Try.prog (q097 α N) := (q092 N).addLoop2 Try.func206 (by kernel_rfl) (loopSum_ok q05l q05m (q092 N) Try.func206 (by kernel_rfl) (d := 1) (ro := 0) fun l K r h => by
  split at h
  · exact (q096 N _ _ _ K N _ _ _).trans h
  · cases h)
def q099 : SPat := ⟨[.sliceV 0 0 0 1 false], [[.vec .i64]]⟩
def q09a : SPat := ⟨[.tuple []], [[.vec .i64]]⟩
theorem q09b {α : Type} (N s_n s_l s_c : Nat) (h0 : List Int) (K : AV -> Heap -> Option α) :
    callK Try.prog (q097 α N) 1 206 0 (buildS q099 [.n s_n, .n s_l, .n s_c, .l h0]).t (buildS q099 [.n s_n, .n s_l, .n s_c, .l h0]).h K = q03b none N s_n s_l s_c h0 (fun h0_ => retK (buildS q09a [.l h0_]) K) := by kernel_rfl
def q09c (α : Type) (N : Nat) : Env α := (q097 α N).addFun 206 false 0 q099 (fun l K => match l with
    | [.n s_n, .n s_l, .n s_c, .l h0] => q03b none N s_n s_l s_c h0 (fun h0_ => retK (buildS q09a [.l h0_]) K)
    | _ => none)
theorem q09d {α : Type} (N : Nat) : EnvOk Try.prog (q09c α N) := (q098 N).addFun q05l q05m (d := 1) fun l K r h => by
  split at h
  · exact (q09b N _ _ _ _ K).trans h
  · cases h
def q09e (α : Type) (N : Nat) : Env α := (q09c α N).addAnn 207 3 { head := [0, 3, 9, 10, 11], grow := [], out := [0, 3], ret := [2] }
theorem q09f {α : Type} (N : Nat) : EnvOk Try.prog (q09e α N) := (q09d N).addAnn
def q09g : SPat := ⟨[.slice ⟨⟨0, 0⟩, 0, 0, 3⟩ 3 3 1 true, .undef, .undef, .int .i64, .undef, .undef, .undef, .undef, .undef, .slice ⟨⟨0, 0⟩, 0, 0, 3⟩ 3 3 1 true, .intC .i64 3, .intC .i64 3] ++ List.replicate 24 .undef, [[.vals [.sliceR 1 1 false, .sliceV 2 0 0 1 false, .sliceV 3 0 0 1 false]], [.pool .i64], [.vec .i64], [.vec .i64]]⟩
def q09h : SPat := ⟨[.slice ⟨⟨0, 0⟩, 0, 0, 3⟩ 3 3 1 true, .undef, .undef, .int .i64] ++ List.replicate 32 .undef, [[.vals [.sliceR 1 1 false, .sliceV 2 0 0 1 false, .sliceV 3 0 0 1 false]], [.pool .i64], [.vec .i64], [.vec .i64]]⟩
theorem q09i {α : Type} (N : Nat) (size : Int) (h0_0_r h0_0_o h0_0_n h0_0_l h0_0_c h0_1_n h0_1_l h0_1_c h0_2_n h0_2_l h0_2_c : Nat) (h1 : List (List Int)) (h2 h3 : List Int) (kn : St -> Option α) (K : AExit -> St -> Option α) :
    roundK Try.prog (q09e α N) 1 0 207 Try.f207 3 4 (buildS q09g [.i size, .n h0_0_r, .n h0_0_o, .n h0_0_n, .n h0_0_l, .n h0_0_c, .n h0_1_n, .n h0_1_l, .n h0_1_c, .n h0_2_n, .n h0_2_l, .n h0_2_c, .r h1, .l h2, .l h3]) kn K = q03c none size h0_0_r h0_0_o h0_0_n h0_0_l h0_0_c h0_1_n h0_1_l h0_1_c h0_2_n h0_2_l h0_2_c h1 h2 h3 (fun size_ h0_0_r_ h0_0_o_ h0_0_n_ h0_0_l_ h0_0_c_ h0_1_n_ h0_1_l_ h0_1_c_ h0_2_n_ h0_2_l_ h0_2_c_ h1_ h2_ h3_ => K (.exit 0) (buildS q09h [.i size_, .n h0_0_r_, .n h0_0_o_, .n h0_0_n_, .n h0_0_l_, .n h0_0_c_, .n h0_1_n_, .n h0_1_l_, .n h0_1_c_, .n h0_2_n_, .n h0_2_l_, .n h0_2_c_, .r h1_, .l h2_, .l h3_])) := by kernel_rfl
theorem q09j {α : Type} (N : Nat) (size : Int) (h0_0_r h0_0_o h0_0_n h0_0_l h0_0_c h0_1_n h0_1_l h0_1_c h0_2_n h0_2_l h0_2_c : Nat) (h1 : List (List Int)) (h2 h3 : List Int) (K : AExit -> St -> Option α) (m : Nat) :
    loopN (trimSt ((q09e α N).ann 207 3).head ((q09e α N).ann 207 3).grow 4) (bodyK Try.prog (q09e α N) 1 0 207 Try.f207 3) (m + 1) (buildS q09g [.i size, .n h0_0_r, .n h0_0_o, .n h0_0_n, .n h0_0_l, .n h0_0_c, .n h0_1_n, .n h0_1_l, .n h0_1_c, .n h0_2_n, .n h0_2_l, .n h0_2_c, .r h1, .l h2, .l h3]) (leaveLoop ((q09e α N).ann 207 3) 4 K) = q03d none size h0_0_r h0_0_o h0_0_n h0_0_l h0_0_c h0_1_n h0_1_l h0_1_c h0_2_n h0_2_l h0_2_c h1 h2 h3 (fun size_ h0_0_r_ h0_0_o_ h0_0_n_ h0_0_l_ h0_0_c_ h0_1_n_ h0_1_l_ h0_1_c_ h0_2_n_ h0_2_l_ h0_2_c_ h1_ h2_ h3_ => K (.exit 0) (buildS q09h [.i size_, .n h0_0_r_, .n h0_0_o_, .n h0_0_n_, .n h0_0_l_, .n h0_0_c_, .n h0_1_n_, .n h0_1_l_, .n h0_1_c_, .n h0_2_n_, .n h0_2_l_, .n h0_2_c_, .r h1_, .l h2_, .l h3_])) := by
  refine (loopN_round (m := m + 0)).trans ?_
  refine (q09i N size h0_0_r h0_0_o h0_0_n h0_0_l h0_0_c h0_1_n h0_1_l h0_1_c h0_2_n h0_2_l h0_2_c h1 h2 h3 _ K).trans ?_
  rfl
def q09k : SPat := ⟨[.slice ⟨⟨0, 0⟩, 0, 0, 3⟩ 3 3 1 true, .undef, .undef, .int .i64, .undef, .undef, .undef, .undef, .undef, .slice ⟨⟨0, 0⟩, 0, 0, 3⟩ 3 3 1 true, .intC .i64 3, .intC .i64 2] ++ List.replicate 24 .undef, [[.vals [.sliceR 1 1 false, .sliceV 2 0 0 1 false, .sliceV 3 0 0 1 false]], [.pool .i64], [.vec .i64], [.vec .i64]]⟩
def q09l : SPat := ⟨[.slice ⟨⟨0, 0⟩, 0, 0, 3⟩ 3 3 1 true, .undef, .undef, .int .i64] ++ List.replicate 32 .undef, [[.vals [.sliceR 1 1 false, .sliceV 2 0 0 1 false, .sliceV 3 0 0 1 false]], [.pool .i64], [.vec .i64], [.vec .i64]]⟩
theorem q09m {α : Type} (N : Nat) (size : Int) (h0_0_r h0_0_o h0_0_n h0_0_l h0_0_c h0_1_n h0_1_l h0_1_c h0_2_n h0_2_l h0_2_c : Nat) (h1 : List (List Int)) (h2 h3 : List Int) (kn : St -> Option α) (K : AExit -> St -> Option α) :
    roundK Try.prog (q09e α N) 1 0 207 Try.f207 3 4 (buildS q09k [.i size, .n h0_0_r, .n h0_0_o, .n h0_0_n, .n h0_0_l, .n h0_0_c, .n h0_1_n, .n h0_1_l, .n h0_1_c, .n h0_2_n, .n h0_2_l, .n h0_2_c, .r h1, .l h2, .l h3]) kn K = q03e none size h0_0_r h0_0_o h0_0_n h0_0_l h0_0_c h0_1_n h0_1_l h0_1_c h0_2_n h0_2_l h0_2_c h1 h2 h3 (fun size_ h0_0_r_ h0_0_o_ h0_0_n_ h0_0_l_ h0_0_c_ h0_1_n_ h0_1_l_ h0_1_c_ h0_2_n_ h0_2_l_ h0_2_c_ h1_ h2_ h3_ => kn (buildS q09g [.i size_, .n h0_0_r_, .n h0_0_o_, .n h0_0_n_, .n h0_0_l_, .n h0_0_c_, .n h0_1_n_, .n h0_1_l_, .n h0_1_c_, .n h0_2_n_, .n h0_2_l_, .n h0_2_c_, .r h1_, .l h2_, .l h3_])) (fun size_ h0_0_r_ h0_0_o_ h0_0_n_ h0_0_l_ h0_0_c_ h0_1_n_ h0_1_l_ h0_1_c_ h0_2_n_ h0_2_l_ h0_2_c_ h1_ h2_ h3_ => K (.exit 0) (buildS q09l [.i size_, .n h0_0_r_, .n h0_0_o_, .n h0_0_n_, .n h0_0_l_, .n h0_0_c_, .n h0_1_n_, .n h0_1_l_, .n h0_1_c_, .n h0_2_n_, .n h0_2_l_, .n h0_2_c_, .r h1_, .l h2_, .l h3_])) := by kernel_rfl
theorem q09n {α : Type} (N : Nat) (size : Int) (h0_0_r h0_0_o h0_0_n h0_0_l h0_0_c h0_1_n h0_1_l h0_1_c h0_2_n h0_2_l h0_2_c : Nat) (h1 : List (List Int)) (h2 h3 : List Int) (K : AExit -> St -> Option α) (m : Nat) :
    loopN (trimSt ((q09e α N).ann 207 3).head ((q09e α N).ann 207 3).grow 4) (bodyK Try.prog (q09e α N) 1 0 207 Try.f207 3) (m + 2) (buildS q09k [.i size, .n h0_0_r, .n h0_0_o, .n h0_0_n, .n h0_0_l, .n h0_0_c, .n h0_1_n, .n h0_1_l, .n h0_1_c, .n h0_2_n, .n h0_2_l, .n h0_2_c, .r h1, .l h2, .l h3]) (leaveLoop ((q09e α N).ann 207 3) 4 K) = q03f none size h0_0_r h0_0_o h0_0_n h0_0_l h0_0_c h0_1_n h0_1_l h0_1_c h0_2_n h0_2_l h0_2_c h1 h2 h3 (fun size_ h0_0_r_ h0_0_o_ h0_0_n_ h0_0_l_ h0_0_c_ h0_1_n_ h0_1_l_ h0_1_c_ h0_2_n_ h0_2_l_ h0_2_c_ h1_ h2_ h3_ => K (.exit 0) (buildS q09l [.i size_, .n h0_0_r_, .n h0_0_o_, .n h0_0_n_, .n h0_0_l_, .n h0_0_c_, .n h0_1_n_, .n h0_1_l_, .n h0_1_c_, .n h0_2_n_, .n h0_2_l_, .n h0_2_c_, .r h1_, .l h2_, .l h3_])) := by
  refine (loopN_round (m := m + 1)).trans ?_
  refine (q09m N size h0_0_r h0_0_o h0_0_n h0_0_l h0_0_c h0_1_n h0_1_l h0_1_c h0_2_n h0_2_l h0_2_c h1 h2 h3 _ K).trans ?_
  simp only [q09j]
  rfl
def q09o : SPat := ⟨[.slice ⟨⟨0, 0⟩, 0, 0, 3⟩ 3 3 1 true, .undef, .undef, .int .i64, .undef, .undef, .undef, .undef, .undef, .slice ⟨⟨0, 0⟩, 0, 0, 3⟩ 3 3 1 true, .intC .i64 3, .intC .i64 1] ++ List.replicate 24 .undef, [[.vals [.sliceR 1 1 false, .sliceV 2 0 0 1 false, .sliceV 3 0 0 1 false]], [.pool .i64], [.vec .i64], [.vec .i64]]⟩
def q09p : SPat := ⟨[.slice ⟨⟨0, 0⟩, 0, 0, 3⟩ 3 3 1 true, .undef, .undef, .int .i64] ++ List.replicate 32 .undef, [[.vals [.sliceR 1 1 false, .sliceV 2 0 0 1 false, .sliceV 3 0 0 1 false]], [.pool .i64], [.vec .i64], [.vec .i64]]⟩
theorem q09q {α : Type} (N : Nat) (size : Int) (h0_0_r h0_0_o h0_0_n h0_0_l h0_0_c h0_1_n h0_1_l h0_1_c h0_2_n h0_2_l h0_2_c : Nat) (h1 : List (List Int)) (h2 h3 : List Int) (kn : St -> Option α) (K : AExit -> St -> Option α) :
    roundK Try.prog (q09e α N) 1 0 207 Try.f207 3 4 (buildS q09o [.i size, .n h0_0_r, .n h0_0_o, .n h0_0_n, .n h0_0_l, .n h0_0_c, .n h0_1_n, .n h0_1_l, .n h0_1_c, .n h0_2_n, .n h0_2_l, .n h0_2_c, .r h1, .l h2, .l h3]) kn K = q03g none size h0_0_r h0_0_o h0_0_n h0_0_l h0_0_c h0_1_n h0_1_l h0_1_c h0_2_n h0_2_l h0_2_c h1 h2 h3 (fun size_ h0_0_r_ h0_0_o_ h0_0_n_ h0_0_l_ h0_0_c_ h0_1_n_ h0_1_l_ h0_1_c_ h0_2_n_ h0_2_l_ h0_2_c_ h1_ h2_ h3_ => kn (buildS q09k [.i size_, .n h0_0_r_, .n h0_0_o_, .n h0_0_n_, .n h0_0_l_, .n h0_0_c_, .n h0_1_n_, .n h0_1_l_, .n h0_1_c_, .n h0_2_n_, .n h0_2_l_, .n h0_2_c_, .r h1_, .l h2_, .l h3_])) (fun size_ h0_0_r_ h0_0_o_ h0_0_n_ h0_0_l_ h0_0_c_ h0_1_n_ h0_1_l_ h0_1_c_ h0_2_n_ h0_2_l_ h0_2_c_ h1_ h2_ h3_ => K (.exit 0) (buildS q09p [.i size_, .n h0_0_r_, .n h0_0_o_, .n h0_0_n_, .n h0_0_l_, .n h0_0_c_, .n h0_1_n_, .n h0_1_l_, .n h0_1_c_, .n h0_2_n_, .n h0_2_l_, .n h0_2_c_, .r h1_, .l h2_, .l h3_])) := by kernel_rfl
theorem q09r {α : Type} (N : Nat) (size : Int) (h0_0_r h0_0_o h0_0_n h0_0_l h0_0_c h0_1_n h0_1_l h0_1_c h0_2_n h0_2_l h0_2_c : Nat) (h1 : List (List Int)) (h2 h3 : List Int) (K : AExit -> St -> Option α) (m : Nat) :
    loopN (trimSt ((q09e α N).ann 207 3).head ((q09e α N).ann 207 3).grow 4) (bodyK Try.prog (q09e α N) 1 0 207 Try.f207 3) (m + 3) (buildS q09o [.i size, .n h0_0_r, .n h0_0_o, .n h0_0_n, .n h0_0_l, .n h0_0_c, .n h0_1_n, .n h0_1_l, .n h0_1_c, .n h0_2_n, .n h0_2_l, .n h0_2_c, .r h1, .l h2, .l h3]) (leaveLoop ((q09e α N).ann 207 3) 4 K) = q03h none size h0_0_r h0_0_o h0_0_n h0_0_l h0_0_c h0_1_n h0_1_l h0_1_c h0_2_n h0_2_l h0_2_c h1 h2 h3 (fun size_ h0_0_r_ h0_0_o_ h0_0_n_ h0_0_l_ h0_0_c_ h0_1_n_ h0_1_l_ h0_1_c_ h0_2_n_ h0_2_l_ h0_2_c_ h1_ h2_ h3_ => K (.exit 0) (buildS q09p [.i size_, .n h0_0_r_, .n h0_0_o_, .n h0_0_n_, .n h0_0_l_, .n h0_0_c_, .n h0_1_n_, .n h0_1_l_, .n h0_1_c_, .n h0_2_n_, .n h0_2_l_, .n h0_2_c_, .r h1_, .l h2_, .l h3_])) := by
  refine (loopN_round (m := m + 2)).trans ?_
  refine (q09q N size h0_0_r h0_0_o h0_0_n h0_0_l h0_0_c h0_1_n h0_1_l h0_1_c h0_2_n h0_2_l h0_2_c h1 h2 h3 _ K).trans ?_
  simp only [q09n]
  rfl
def q09s : SPat := ⟨[.slice ⟨⟨0, 0⟩, 0, 0, 3⟩ 3 3 1 true, .undef, .undef, .intC .i64 0, .undef, .undef, .undef, .undef, .undef, .slice ⟨⟨0, 0⟩, 0, 0, 3⟩ 3 3 1 true, .intC .i64 3, .intC .i64 0] ++ List.replicate 24 .undef, [[.vals [.sliceR 1 1 false, .sliceV 2 0 0 1 false, .sliceV 3 0 0 1 false]], [.pool .i64], [.vec .i64], [.vec .i64]]⟩
def q09t : SPat := ⟨[.slice ⟨⟨0, 0⟩, 0, 0, 3⟩ 3 3 1 true, .undef, .undef, .int .i64] ++ List.replicate 32 .undef, [[.vals [.sliceR 1 1 false, .sliceV 2 0 0 1 false, .sliceV 3 0 0 1 false]], [.pool .i64], [.vec .i64], [.vec .i64]]⟩
theorem q09u {α : Type} (N h0_0_r h0_0_o h0_0_n h0_0_l h0_0_c h0_1_n h0_1_l h0_1_c h0_2_n h0_2_l h0_2_c : Nat) (h1 : List (List Int)) (h2 h3 : List Int) (kn : St -> Option α) (K : AExit -> St -> Option α) :
    roundK Try.prog (q09e α N) 1 0 207 Try.f207 3 4 (buildS q09s [.n h0_0_r, .n h0_0_o, .n h0_0_n, .n h0_0_l, .n h0_0_c, .n h0_1_n, .n h0_1_l, .n h0_1_c, .n h0_2_n, .n h0_2_l, .n h0_2_c, .r h1, .l h2, .l h3]) kn K = q03i none h0_0_r h0_0_o h0_0_n h0_0_l h0_0_c h0_1_n h0_1_l h0_1_c h0_2_n h0_2_l h0_2_c h1 h2 h3 (fun size_ h0_0_r_ h0_0_o_ h0_0_n_ h0_0_l_ h0_0_c_ h0_1_n_ h0_1_l_ h0_1_c_ h0_2_n_ h0_2_l_ h0_2_c_ h1_ h2_ h3_ => kn (buildS q09o [.i size_, .n h0_0_r_, .n h0_0_o_, .n h0_0_n_, .n h0_0_l_, .n h0_0_c_, .n h0_1_n_, .n h0_1_l_, .n h0_1_c_, .n h0_2_n_, .n h0_2_l_, .n h0_2_c_, .r h1_, .l h2_, .l h3_])) (fun size_ h0_0_r_ h0_0_o_ h0_0_n_ h0_0_l_ h0_0_c_ h0_1_n_ h0_1_l_ h0_1_c_ h0_2_n_ h0_2_l_ h0_2_c_ h1_ h2_ h3_ => K (.exit 0) (buildS q09t [.i size_, .n h0_0_r_, .n h0_0_o_, .n h0_0_n_, .n h0_0_l_, .n h0_0_c_, .n h0_1_n_, .n h0_1_l_, .n h0_1_c_, .n h0_2_n_, .n h0_2_l_, .n h0_2_c_, .r h1_, .l h2_, .l h3_])) := by kernel_rfl
theorem q09v {α : Type} (N h0_0_r h0_0_o h0_0_n h0_0_l h0_0_c h0_1_n h0_1_l h0_1_c h0_2_n h0_2_l h0_2_c : Nat) (h1 : List (List Int)) (h2 h3 : List Int) (K : AExit -> St -> Option α) (m : Nat) :
    loopN (trimSt ((q09e α N).ann 207 3).head ((q09e α N).ann 207 3).grow 4) (bodyK Try.prog (q09e α N) 1 0 207 Try.f207 3) (m + 4) (buildS q09s [.n h0_0_r, .n h0_0_o, .n h0_0_n, .n h0_0_l, .n h0_0_c, .n h0_1_n, .n h0_1_l, .n h0_1_c, .n h0_2_n, .n h0_2_l, .n h0_2_c, .r h1, .l h2, .l h3]) (leaveLoop ((q09e α N).ann 207 3) 4 K) = q03j none h0_0_r h0_0_o h0_0_n h0_0_l h0_0_c h0_1_n h0_1_l h0_1_c h0_2_n h0_2_l h0_2_c h1 h2 h3 (fun size_ h0_0_r_ h0_0_o_ h0_0_n_ h0_0_l_ h0_0_c_ h0_1_n_ h0_1_l_ h0_1_c_ h0_2_n_ h0_2_l_ h0_2_c_ h1_ h2_ h3_ => K (.exit 0) (buildS q09t [.i size_, .n h0_0_r_, .n h0_0_o_, .n h0_0_n_, .n h0_0_l_, .n h0_0_c_, .n h0_1_n_, .n h0_1_l_, .n h0_1_c_, .n h0_2_n_, .n h0_2_l_, .n h0_2_c_, .r h1_, .l h2_, .l h3_])) := by
  refine (loopN_round (m := m + 3)).trans ?_
  refine (q09u N h0_0_r h0_0_o h0_0_n h0_0_l h0_0_c h0_1_n h0_1_l h0_1_c h0_2_n h0_2_l h0_2_c h1 h2 h3 _ K).trans ?_
  simp only [q09r]
  rfl
def q09w (α : Type) (N : Nat) : Env α := (q09e α N).addLoop2 207 3 (loopSum2 ((q09e α N).ann 207 3) 0 q09s (fun l K => match l with
    | [.n h0_0_r, .n h0_0_o, .n h0_0_n, .n h0_0_l, .n h0_0_c, .n h0_1_n, .n h0_1_l, .n h0_1_c, .n h0_2_n, .n h0_2_l, .n h0_2_c, .r h1, .l h2, .l h3] => q03j none h0_0_r h0_0_o h0_0_n h0_0_l h0_0_c h0_1_n h0_1_l h0_1_c h0_2_n h0_2_l h0_2_c h1 h2 h3 (fun size_ h0_0_r_ h0_0_o_ h0_0_n_ h0_0_l_ h0_0_c_ h0_1_n_ h0_1_l_ h0_1_c_ h0_2_n_ h0_2_l_ h0_2_c_ h1_ h2_ h3_ => K (.exit 0) (buildS q09t [.i size_, .n h0_0_r_, .n h0_0_o_, .n h0_0_n_, .n h0_0_l_, .n h0_0_c_, .n h0_1_n_, .n h0_1_l_, .n h0_1_c_, .n h0_2_n_, .n h0_2_l_, .n h0_2_c_, .r h1_, .l h2_, .l h3_]))
    | _ => none) ((q09e α N).ls 207 3))
theorem q09x {α : Type} (N : Nat) : EnvOk Try.prog (q09w α N) := (q09f N).addLoop2 Try.func207 (by kernel_rfl) (loopSum_okN q05l q05m (q09f N) Try.func207 (by kernel_rfl) (d := 1) (ro := 0) (fuel := 4) fun l K r h => by
  split at h
  · exact (q09v N _ _ _ _ _ _ _ _ _ _ _ _ _ _ K 0).trans h
  · cases h)
def q09y : SPat := ⟨[.nils, .int .i64], []⟩
def q09z : SPat := ⟨[.sliceV 0 0 0 1 false], [[.vec .i64]]⟩
def q0a0 : SPat := ⟨[.nils], []⟩
theorem q0a1 {α : Type} (N : Nat) (n : Int) (K : AV -> Heap -> Option α) :
    callK Try.prog (q09w α N) 1 220 0 (buildS q09y [.i n]).t (buildS q09y [.i n]).h K = q03k none N n (fun r_n_ r_l_ r_c_ h0_ => retK (buildS q09z [.n r_n_, .n r_l_, .n r_c_, .l h0_]) K) (retK (buildS q0a0 []) K) := by kernel_rfl
def q0a2 (α : Type) (N : Nat) : Env α := (q09w α N).addFun 220 true 0 q09y (fun l K => match l with
    | [.i n] => q03k none N n (fun r_n_ r_l_ r_c_ h0_ => retK (buildS q09z [.n r_n_, .n r_l_, .n r_c_, .l h0_]) K) (retK (buildS q0a0 []) K)
    | _ => none)
theorem q0a3 {α : Type} (N : Nat) : EnvOk Try.prog (q0a2 α N) := (q09x N).addFun q05l q05m (d := 1) fun l K r h => by
  split at h
  · exact (q0a1 N _ K).trans h
  · cases h
def q0a4 (α : Type) (N : Nat) : Env α := (q0a2 α N).addAnn 207 11 { head := [6, 25, 26, 27], grow := [6], out := [6], ret := [2] }
theorem q0a5 {α : Type} (N : Nat) : EnvOk Try.prog (q0a4 α N) := (q0a3 N).addAnn
def q0a6 : SPat := ⟨[.undef, .undef, .undef, .undef, .undef, .undef, .sliceV 4 0 0 1 false, .undef, .undef, .undef, .undef, .undef, .undef, .undef, .undef, .undef, .undef, .undef, .undef, .undef, .undef, .undef, .undef, .undef, .undef, .slice ⟨⟨0, 0⟩, 0, 0, 3⟩ 3 3 1 true, .intC .i64 3, .intC .i64 3] ++ List.replicate 8 .undef, [[.vals [.sliceR 1 1 false, .sliceV 2 0 0 1 false, .sliceV 3 0 0 1 false]], [.pool .i64], [.vec .i64], [.vec .i64], [.vec .i64]]⟩
def q0a7 : SPat := ⟨[.undef, .undef, .undef, .undef, .undef, .undef, .sliceV 4 0 0 1 false] ++ List.replicate 29 .undef, [[.vals [.sliceR 1 1 false, .sliceV 2 0 0 1 false, .sliceV 3 0 0 1 false]], [.pool .i64], [.vec .i64], [.vec .i64], [.vec .i64]]⟩
theorem q0a8 {α : Type} (N newslice_n newslice_l newslice_c h0_0_r h0_0_o h0_0_n h0_0_l h0_0_c h0_1_n h0_1_l h0_1_c h0_2_n h0_2_l h0_2_c : Nat) (h1 : List (List Int)) (h2 h3 h4 : List Int) (kn : St -> Option α) (K : AExit -> St -> Option α) :
    roundK Try.prog (q0a4 α N) 1 0 207 Try.f207 11 5 (buildS q0a6 [.n newslice_n, .n newslice_l, .n newslice_c, .n h0_0_r, .n h0_0_o, .n h0_0_n, .n h0_0_l, .n h0_0_c, .n h0_1_n, .n h0_1_l, .n h0_1_c, .n h0_2_n, .n h0_2_l, .n h0_2_c, .r h1, .l h2, .l h3, .l h4]) kn K = q03l none newslice_n newslice_l newslice_c h0_0_r h0_0_o h0_0_n h0_0_l h0_0_c h0_1_n h0_1_l h0_1_c h0_2_n h0_2_l h0_2_c h1 h2 h3 h4 (fun newslice_n_ newslice_l_ newslice_c_ h0_0_r_ h0_0_o_ h0_0_n_ h0_0_l_ h0_0_c_ h0_1_n_ h0_1_l_ h0_1_c_ h0_2_n_ h0_2_l_ h0_2_c_ h1_ h2_ h3_ h4_ => K (.exit 2) (buildS q0a7 [.n newslice_n_, .n newslice_l_, .n newslice_c_, .n h0_0_r_, .n h0_0_o_, .n h0_0_n_, .n h0_0_l_, .n h0_0_c_, .n h0_1_n_, .n h0_1_l_, .n h0_1_c_, .n h0_2_n_, .n h0_2_l_, .n h0_2_c_, .r h1_, .l h2_, .l h3_, .l h4_])) := by kernel_rfl
theorem q0a9 {α : Type} (N newslice_n newslice_l newslice_c h0_0_r h0_0_o h0_0_n h0_0_l h0_0_c h0_1_n h0_1_l h0_1_c h0_2_n h0_2_l h0_2_c : Nat) (h1 : List (List Int)) (h2 h3 h4 : List Int) (K : AExit -> St -> Option α) (m : Nat) :
    loopN (trimSt ((q0a4 α N).ann 207 11).head ((q0a4 α N).ann 207 11).grow 5) (bodyK Try.prog (q0a4 α N) 1 0 207 Try.f207 11) (m + 1) (buildS q0a6 [.n newslice_n, .n newslice_l, .n newslice_c, .n h0_0_r, .n h0_0_o, .n h0_0_n, .n h0_0_l, .n h0_0_c, .n h0_1_n, .n h0_1_l, .n h0_1_c, .n h0_2_n, .n h0_2_l, .n h0_2_c, .r h1, .l h2, .l h3, .l h4]) (leaveLoop ((q0a4 α N).ann 207 11) 5 K) = q03m none newslice_n newslice_l newslice_c h0_0_r h0_0_o h0_0_n h0_0_l h0_0_c h0_1_n h0_1_l h0_1_c h0_2_n h0_2_l h0_2_c h1 h2 h3 h4 (fun newslice_n_ newslice_l_ newslice_c_ h0_0_r_ h0_0_o_ h0_0_n_ h0_0_l_ h0_0_c_ h0_1_n_ h0_1_l_ h0_1_c_ h0_2_n_ h0_2_l_ h0_2_c_ h1_ h2_ h3_ h4_ => K (.exit 2) (buildS q0a7 [.n newslice_n_, .n newslice_l_, .n newslice_c_, .n h0_0_r_, .n h0_0_o_, .n h0_0_n_, .n h0_0_l_, .n h0_0_c_, .n h0_1_n_, .n h0_1_l_, .n h0_1_c_, .n h0_2_n_, .n h0_2_l_, .n h0_2_c_, .r h1_, .l h2_, .l h3_, .l h4_])) := by
  refine (loopN_round (m := m + 0)).trans ?_
  refine (q0a8 N newslice_n newslice_l newslice_c h0_0_r h0_0_o h0_0_n h0_0_l h0_0_c h0_1_n h0_1_l h0_1_c h0_2_n h0_2_l h0_2_c h1 h2 h3 h4 _ K).trans ?_
  rfl
def q0aa : SPat := ⟨[.undef, .undef, .undef, .undef, .undef, .undef, .sliceV 4 0 0 1 false, .undef, .undef, .undef, .undef, .undef, .undef, .undef, .undef, .undef, .undef, .undef, .undef, .undef, .undef, .undef, .undef, .undef, .undef, .slice ⟨⟨0, 0⟩, 0, 0, 3⟩ 3 3 1 true, .intC .i64 3, .intC .i64 2] ++ List.replicate 8 .undef, [[.vals [.sliceR 1 1 false, .sliceV 2 0 0 1 false, .sliceV 3 0 0 1 false]], [.pool .i64], [.vec .i64], [.vec .i64], [.vec .i64]]⟩
def q0ab : SPat := ⟨[.undef, .undef, .undef, .undef, .undef, .undef, .sliceV 4 0 0 1 false] ++ List.replicate 29 .undef, [[.vals [.sliceR 1 1 false, .sliceV 2 0 0 1 false, .sliceV 3 0 0 1 false]], [.pool .i64], [.vec .i64], [.vec .i64], [.vec .i64]]⟩
theorem q0ac {α : Type} (N newslice_n newslice_l newslice_c h0_0_r h0_0_o h0_0_n h0_0_l h0_0_c h0_1_n h0_1_l h0_1_c h0_2_n h0_2_l h0_2_c : Nat) (h1 : List (List Int)) (h2 h3 h4 : List Int) (kn : St -> Option α) (K : AExit -> St -> Option α) :
    roundK Try.prog (q0a4 α N) 1 0 207 Try.f207 11 5 (buildS q0aa [.n newslice_n, .n newslice_l, .n newslice_c, .n h0_0_r, .n h0_0_o, .n h0_0_n, .n h0_0_l, .n h0_0_c, .n h0_1_n, .n h0_1_l, .n h0_1_c, .n h0_2_n, .n h0_2_l, .n h0_2_c, .r h1, .l h2, .l h3, .l h4]) kn K = q03n none newslice_n newslice_l newslice_c h0_0_r h0_0_o h0_0_n h0_0_l h0_0_c h0_1_n h0_1_l h0_1_c h0_2_n h0_2_l h0_2_c h1 h2 h3 h4 (fun newslice_n_ newslice_l_ newslice_c_ h0_0_r_ h0_0_o_ h0_0_n_ h0_0_l_ h0_0_c_ h0_1_n_ h0_1_l_ h0_1_c_ h0_2_n_ h0_2_l_ h0_2_c_ h1_ h2_ h3_ h4_ => kn (buildS q0a6 [.n newslice_n_, .n newslice_l_, .n newslice_c_, .n h0_0_r_, .n h0_0_o_, .n h0_0_n_, .n h0_0_l_, .n h0_0_c_, .n h0_1_n_, .n h0_1_l_, .n h0_1_c_, .n h0_2_n_, .n h0_2_l_, .n h0_2_c_, .r h1_, .l h2_, .l h3_, .l h4_])) (fun newslice_n_ newslice_l_ newslice_c_ h0_0_r_ h0_0_o_ h0_0_n_ h0_0_l_ h0_0_c_ h0_1_n_ h0_1_l_ h0_1_c_ h0_2_n_ h0_2_l_ h0_2_c_ h1_ h2_ h3_ h4_ => K (.exit 2) (buildS q0ab [.n newslice_n_, .n newslice_l_, .n newslice_c_, .n h0_0_r_, .n h0_0_o_, .n h0_0_n_, .n h0_0_l_, .n h0_0_c_, .n h0_1_n_, .n h0_1_l_, .n h0_1_c_, .n h0_2_n_, .n h0_2_l_, .n h0_2_c_, .r h1_, .l h2_, .l h3_, .l h4_])) := by kernel_rfl
theorem q0ad {α : Type} (N newslice_n newslice_l newslice_c h0_0_r h0_0_o h0_0_n h0_0_l h0_0_c h0_1_n h0_1_l h0_1_c h0_2_n h0_2_l h0_2_c : Nat) (h1 : List (List Int)) (h2 h3 h4 : List Int) (K : AExit -> St -> Option α) (m : Nat) :
    loopN (trimSt ((q0a4 α N).ann 207 11).head ((q0a4 α N).ann 207 11).grow 5) (bodyK Try.prog (q0a4 α N) 1 0 207 Try.f207 11) (m + 2) (buildS q0aa [.n newslice_n, .n newslice_l, .n newslice_c, .n h0_0_r, .n h0_0_o, .n h0_0_n, .n h0_0_l, .n h0_0_c, .n h0_1_n, .n h0_1_l, .n h0_1_c, .n h0_2_n, .n h0_2_l, .n h0_2_c, .r h1, .l h2, .l h3, .l h4]) (leaveLoop ((q0a4 α N).ann 207 11) 5 K) = q03o none newslice_n newslice_l newslice_c h0_0_r h0_0_o h0_0_n h0_0_l h0_0_c h0_1_n h0_1_l h0_1_c h0_2_n h0_2_l h0_2_c h1 h2 h3 h4 (fun newslice_n_ newslice_l_ newslice_c_ h0_0_r_ h0_0_o_ h0_0_n_ h0_0_l_ h0_0_c_ h0_1_n_ h0_1_l_ h0_1_c_ h0_2_n_ h0_2_l_ h0_2_c_ h1_ h2_ h3_ h4_ => K (.exit 2) (buildS q0ab [.n newslice_n_, .n newslice_l_, .n newslice_c_, .n h0_0_r_, .n h0_0_o_, .n h0_0_n_, .n h0_0_l_, .n h0_0_c_, .n h0_1_n_, .n h0_1_l_, .n h0_1_c_, .n h0_2_n_, .n h0_2_l_, .n h0_2_c_, .r h1_, .l h2_, .l h3_, .l h4_])) := by
  refine (loopN_round (m := m + 1)).trans ?_
  refine (q0ac N newslice_n newslice_l newslice_c h0_0_r h0_0_o h0_0_n h0_0_l h0_0_c h0_1_n h0_1_l h0_1_c h0_2_n h0_2_l h0_2_c h1 h2 h3 h4 _ K).trans ?_
  simp only [q0a9]
  rfl
def q0ae : SPat := ⟨[.undef, .undef, .undef, .undef, .undef, .undef, .sliceV 4 0 0 1 false, .undef, .undef, .undef, .undef, .undef, .undef, .undef, .undef, .undef, .undef, .undef, .undef, .undef, .undef, .undef, .undef, .undef, .undef, .slice ⟨⟨0, 0⟩, 0, 0, 3⟩ 3 3 1 true, .intC .i64 3, .intC .i64 1] ++ List.replicate 8 .undef, [[.vals [.sliceR 1 1 false, .sliceV 2 0 0 1 false, .sliceV 3 0 0 1 false]], [.pool .i64], [.vec .i64], [.vec .i64], [.vec .i64]]⟩
def q0af : SPat := ⟨[.undef, .undef, .undef, .undef, .undef, .undef, .sliceV 4 0 0 1 false] ++ List.replicate 29 .undef, [[.vals [.sliceR 1 1 false, .sliceV 2 0 0 1 false, .sliceV 3 0 0 1 false]], [.pool .i64], [.vec .i64], [.vec .i64], [.vec .i64]]⟩
theorem q0ag {α : Type} (N newslice_n newslice_l newslice_c h0_0_r h0_0_o h0_0_n h0_0_l h0_0_c h0_1_n h0_1_l h0_1_c h0_2_n h0_2_l h0_2_c : Nat) (h1 : List (List Int)) (h2 h3 h4 : List Int) (kn : St -> Option α) (K : AExit -> St -> Option α) :
    roundK Try.prog (q0a4 α N) 1 0 207 Try.f207 11 5 (buildS q0ae [.n newslice_n, .n newslice_l, .n newslice_c, .n h0_0_r, .n h0_0_o, .n h0_0_n, .n h0_0_l, .n h0_0_c, .n h0_1_n, .n h0_1_l, .n h0_1_c, .n h0_2_n, .n h0_2_l, .n h0_2_c, .r h1, .l h2, .l h3, .l h4]) kn K = q03p none newslice_n newslice_l newslice_c h0_0_r h0_0_o h0_0_n h0_0_l h0_0_c h0_1_n h0_1_l h0_1_c h0_2_n h0_2_l h0_2_c h1 h2 h3 h4 (fun newslice_n_ newslice_l_ newslice_c_ h0_0_r_ h0_0_o_ h0_0_n_ h0_0_l_ h0_0_c_ h0_1_n_ h0_1_l_ h0_1_c_ h0_2_n_ h0_2_l_ h0_2_c_ h1_ h2_ h3_ h4_ => kn (buildS q0aa [.n newslice_n_, .n newslice_l_, .n newslice_c_, .n h0_0_r_, .n h0_0_o_, .n h0_0_n_, .n h0_0_l_, .n h0_0_c_, .n h0_1_n_, .n h0_1_l_, .n h0_1_c_, .n h0_2_n_, .n h0_2_l_, .n h0_2_c_, .r h1_, .l h2_, .l h3_, .l h4_])) (fun newslice_n_ newslice_l_ newslice_c_ h0_0_r_ h0_0_o_ h0_0_n_ h0_0_l_ h0_0_c_ h0_1_n_ h0_1_l_ h0_1_c_ h0_2_n_ h0_2_l_ h0_2_c_ h1_ h2_ h3_ h4_ => K (.exit 2) (buildS q0af [.n newslice_n_, .n newslice_l_, .n newslice_c_, .n h0_0_r_, .n h0_0_o_, .n h0_0_n_, .n h0_0_l_, .n h0_0_c_, .n h0_1_n_, .n h0_1_l_, .n h0_1_c_, .n h0_2_n_, .n h0_2_l_, .n h0_2_c_, .r h1_, .l h2_, .l h3_, .l h4_])) := by kernel_rfl
theorem q0ah {α : Type} (N newslice_n newslice_l newslice_c h0_0_r h0_0_o h0_0_n h0_0_l h0_0_c h0_1_n h0_1_l h0_1_c h0_2_n h0_2_l h0_2_c : Nat) (h1 : List (List Int)) (h2 h3 h4 : List Int) (K : AExit -> St -> Option α) (m : Nat) :
    loopN (trimSt ((q0a4 α N).ann 207 11).head ((q0a4 α N).ann 207 11).grow 5) (bodyK Try.prog (q0a4 α N) 1 0 207 Try.f207 11) (m + 3) (buildS q0ae [.n newslice_n, .n newslice_l, .n newslice_c, .n h0_0_r, .n h0_0_o, .n h0_0_n, .n h0_0_l, .n h0_0_c, .n h0_1_n, .n h0_1_l, .n h0_1_c, .n h0_2_n, .n h0_2_l, .n h0_2_c, .r h1, .l h2, .l h3, .l h4]) (leaveLoop ((q0a4 α N).ann 207 11) 5 K) = q03q none newslice_n newslice_l newslice_c h0_0_r h0_0_o h0_0_n h0_0_l h0_0_c h0_1_n h0_1_l h0_1_c h0_2_n h0_2_l h0_2_c h1 h2 h3 h4 (fun newslice_n_ newslice_l_ newslice_c_ h0_0_r_ h0_0_o_ h0_0_n_ h0_0_l_ h0_0_c_ h0_1_n_ h0_1_l_ h0_1_c_ h0_2_n_ h0_2_l_ h0_2_c_ h1_ h2_ h3_ h4_ => K (.exit 2) (buildS q0af [.n newslice_n_, .n newslice_l_, .n newslice_c_, .n h0_0_r_, .n h0_0_o_, .n h0_0_n_, .n h0_0_l_, .n h0_0_c_, .n h0_1_n_, .n h0_1_l_, .n h0_1_c_, .n h0_2_n_, .n h0_2_l_, .n h0_2_c_, .r h1_, .l h2_, .l h3_, .l h4_])) := by
  refine (loopN_round (m := m + 2)).trans ?_
  refine (q0ag N newslice_n newslice_l newslice_c h0_0_r h0_0_o h0_0_n h0_0_l h0_0_c h0_1_n h0_1_l h0_1_c h0_2_n h0_2_l h0_2_c h1 h2 h3 h4 _ K).trans ?_
  simp only [q0ad]
  rfl
def q0ai : SPat := ⟨[.undef, .undef, .undef, .undef, .undef, .undef, .sliceV 4 0 0 1 false, .undef, .undef, .undef, .undef, .undef, .undef, .undef, .undef, .undef, .undef, .undef, .undef, .undef, .undef, .undef, .undef, .undef, .undef, .slice ⟨⟨0, 0⟩, 0, 0, 3⟩ 3 3 1 true, .intC .i64 3, .intC .i64 0] ++ List.replicate 8 .undef, [[.vals [.sliceR 1 1 false, .sliceV 2 0 0 1 false, .sliceV 3 0 0 1 false]], [.pool .i64], [.vec .i64], [.vec .i64], [.vec .i64]]⟩
def q0aj : SPat := ⟨[.undef, .undef, .undef, .undef, .undef, .undef, .sliceV 4 0 0 1 false] ++ List.replicate 29 .undef, [[.vals [.sliceR 1 1 false, .sliceV 2 0 0 1 false, .sliceV 3 0 0 1 false]], [.pool .i64], [.vec .i64], [.vec .i64], [.vec .i64]]⟩
theorem q0ak {α : Type} (N newslice_n newslice_l newslice_c h0_0_r h0_0_o h0_0_n h0_0_l h0_0_c h0_1_n h0_1_l h0_1_c h0_2_n h0_2_l h0_2_c : Nat) (h1 : List (List Int)) (h2 h3 h4 : List Int) (kn : St -> Option α) (K : AExit -> St -> Option α) :
    roundK Try.prog (q0a4 α N) 1 0 207 Try.f207 11 5 (buildS q0ai [.n newslice_n, .n newslice_l, .n newslice_c, .n h0_0_r, .n h0_0_o, .n h0_0_n, .n h0_0_l, .n h0_0_c, .n h0_1_n, .n h0_1_l, .n h0_1_c, .n h0_2_n, .n h0_2_l, .n h0_2_c, .r h1, .l h2, .l h3, .l h4]) kn K = q03r none newslice_n newslice_l newslice_c h0_0_r h0_0_o h0_0_n h0_0_l h0_0_c h0_1_n h0_1_l h0_1_c h0_2_n h0_2_l h0_2_c h1 h2 h3 h4 (fun newslice_n_ newslice_l_ newslice_c_ h0_0_r_ h0_0_o_ h0_0_n_ h0_0_l_ h0_0_c_ h0_1_n_ h0_1_l_ h0_1_c_ h0_2_n_ h0_2_l_ h0_2_c_ h1_ h2_ h3_ h4_ => kn (buildS q0ae [.n newslice_n_, .n newslice_l_, .n newslice_c_, .n h0_0_r_, .n h0_0_o_, .n h0_0_n_, .n h0_0_l_, .n h0_0_c_, .n h0_1_n_, .n h0_1_l_, .n h0_1_c_, .n h0_2_n_, .n h0_2_l_, .n h0_2_c_, .r h1_, .l h2_, .l h3_, .l h4_])) (fun newslice_n_ newslice_l_ newslice_c_ h0_0_r_ h0_0_o_ h0_0_n_ h0_0_l_ h0_0_c_ h0_1_n_ h0_1_l_ h0_1_c_ h0_2_n_ h0_2_l_ h0_2_c_ h1_ h2_ h3_ h4_ => K (.exit 2) (buildS q0aj [.n newslice_n_, .n newslice_l_, .n newslice_c_, .n h0_0_r_, .n h0_0_o_, .n h0_0_n_, .n h0_0_l_, .n h0_0_c_, .n h0_1_n_, .n h0_1_l_, .n h0_1_c_, .n h0_2_n_, .n h0_2_l_, .n h0_2_c_, .r h1_, .l h2_, .l h3_, .l h4_])) := by kernel_rfl
theorem q0al {α : Type} (N newslice_n newslice_l newslice_c h0_0_r h0_0_o h0_0_n h0_0_l h0_0_c h0_1_n h0_1_l h0_1_c h0_2_n h0_2_l h0_2_c : Nat) (h1 : List (List Int)) (h2 h3 h4 : List Int) (K : AExit -> St -> Option α) (m : Nat) :
    loopN (trimSt ((q0a4 α N).ann 207 11).head ((q0a4 α N).ann 207 11).grow 5) (bodyK Try.prog (q0a4 α N) 1 0 207 Try.f207 11) (m + 4) (buildS q0ai [.n newslice_n, .n newslice_l, .n newslice_c, .n h0_0_r, .n h0_0_o, .n h0_0_n, .n h0_0_l, .n h0_0_c, .n h0_1_n, .n h0_1_l, .n h0_1_c, .n h0_2_n, .n h0_2_l, .n h0_2_c, .r h1, .l h2, .l h3, .l h4]) (leaveLoop ((q0a4 α N).ann 207 11) 5 K) = q03s none newslice_n newslice_l newslice_c h0_0_r h0_0_o h0_0_n h0_0_l h0_0_c h0_1_n h0_1_l h0_1_c h0_2_n h0_2_l h0_2_c h1 h2 h3 h4 (fun newslice_n_ newslice_l_ newslice_c_ h0_0_r_ h0_0_o_ h0_0_n_ h0_0_l_ h0_0_c_ h0_1_n_ h0_1_l_ h0_1_c_ h0_2_n_ h0_2_l_ h0_2_c_ h1_ h2_ h3_ h4_ => K (.exit 2) (buildS q0aj [.n newslice_n_, .n newslice_l_, .n newslice_c_, .n h0_0_r_, .n h0_0_o_, .n h0_0_n_, .n h0_0_l_, .n h0_0_c_, .n h0_1_n_, .n h0_1_l_, .n h0_1_c_, .n h0_2_n_, .n h0_2_l_, .n h0_2_c_, .r h1_, .l h2_, .l h3_, .l h4_])) := by
  refine (loopN_round (m := m + 3)).trans ?_
  refine (q0ak N newslice_n newslice_l newslice_c h0_0_r h0_0_o h0_0_n h0_0_l h0_0_c h0_1_n h0_1_l h0_1_c h0_2_n h0_2_l h0_2_c h1 h2 h3 h4 _ K).trans ?_
  simp only [q0ah]
  rfl
def q0am (α : Type) (N : Nat) : Env α := (q0a4 α N).addLoop2 207 11 (loopSum2 ((q0a4 α N).ann 207 11) 0 q0ai (fun l K => match l with
    | [.n newslice_n, .n newslice_l, .n newslice_c, .n h0_0_r, .n h0_0_o, .n h0_0_n, .n h0_0_l, .n h0_0_c, .n h0_1_n, .n h0_1_l, .n h0_1_c, .n h0_2_n, .n h0_2_l, .n h0_2_c, .r h1, .l h2, .l h3, .l h4] => q03s none newslice_n newslice_l newslice_c h0_0_r h0_0_o h0_0_n h0_0_l h0_0_c h0_1_n h0_1_l h0_1_c h0_2_n h0_2_l h0_2_c h1 h2 h3 h4 (fun newslice_n_ newslice_l_ newslice_c_ h0_0_r_ h0_0_o_ h0_0_n_ h0_0_l_ h0_0_c_ h0_1_n_ h0_1_l_ h0_1_c_ h0_2_n_ h0_2_l_ h0_2_c_ h1_ h2_ h3_ h4_ => K (.exit 2) (buildS q0aj [.n newslice_n_, .n newslice_l_, .n newslice_c_, .n h0_0_r_, .n h0_0_o_, .n h0_0_n_, .n h0_0_l_, .n h0_0_c_, .n h0_1_n_, .n h0_1_l_, .n h0_1_c_, .n h0_2_n_, .n h0_2_l_, .n h0_2_c_, .r h1_, .l h2_, .l h3_, .l h4_]))
    | _ => none) ((q0a4 α N).ls 207 11))
theorem q0an {α : Type} (N : Nat) : EnvOk Try.prog (q0am α N) := (q0a5 N).addLoop2 Try.func207 (by kernel_rfl) (loopSum_okN q05l q05m (q0a5 N) Try.func207 (by kernel_rfl) (d := 1) (ro := 0) (fuel := 4) fun l K r h => by
  split at h
  · exact (q0al N _ _ _ _ _ _ _ _ _ _ _ _ _ _ _ _ _ _ K 0).trans h
  · cases h)
def q0ao : SPat := ⟨[.undef, .undef, .undef, .undef, .undef, .undef, .nils, .undef, .undef, .undef, .undef, .undef, .undef, .undef, .undef, .undef, .undef, .undef, .undef, .undef, .undef, .undef, .undef, .undef, .undef, .slice ⟨⟨0, 0⟩, 0, 0, 3⟩ 3 3 1 true, .intC .i64 3, .intC .i64 3] ++ List.replicate 8 .undef, [[.vals [.sliceR 1 1 false, .sliceV 2 0 0 1 false, .sliceV 3 0 0 1 false]], [.pool .i64], [.vec .i64], [.vec .i64]]⟩
def q0ap : SPat := ⟨[.undef, .undef, .undef, .undef, .undef, .undef, .nils] ++ List.replicate 29 .undef, [[.vals [.sliceR 1 1 false, .sliceV 2 0 0 1 false, .sliceV 3 0 0 1 false]], [.pool .i64], [.vec .i64], [.vec .i64]]⟩
theorem q0aq {α : Type} (N h0_0_r h0_0_o h0_0_n h0_0_l h0_0_c h0_1_n h0_1_l h0_1_c h0_2_n h0_2_l h0_2_c : Nat) (h1 : List (List Int)) (h2 h3 : List Int) (kn : St -> Option α) (K : AExit -> St -> Option α) :
    roundK Try.prog (q0am α N) 1 0 207 Try.f207 11 4 (buildS q0ao [.n h0_0_r, .n h0_0_o, .n h0_0_n, .n h0_0_l, .n h0_0_c, .n h0_1_n, .n h0_1_l, .n h0_1_c, .n h0_2_n, .n h0_2_l, .n h0_2_c, .r h1, .l h2, .l h3]) kn K = q03t none h0_0_r h0_0_o h0_0_n h0_0_l h0_0_c h0_1_n h0_1_l h0_1_c h0_2_n h0_2_l h0_2_c h1 h2 h3 (fun h0_0_r_ h0_0_o_ h0_0_n_ h0_0_l_ h0_0_c_ h0_1_n_ h0_1_l_ h0_1_c_ h0_2_n_ h0_2_l_ h0_2_c_ h1_ h2_ h3_ => K (.exit 2) (buildS q0ap [.n h0_0_r_, .n h0_0_o_, .n h0_0_n_, .n h0_0_l_, .n h0_0_c_, .n h0_1_n_, .n h0_1_l_, .n h0_1_c_, .n h0_2_n_, .n h0_2_l_, .n h0_2_c_, .r h1_, .l h2_, .l h3_])) := by kernel_rfl
theorem q0ar {α : Type} (N h0_0_r h0_0_o h0_0_n h0_0_l h0_0_c h0_1_n h0_1_l h0_1_c h0_2_n h0_2_l h0_2_c : Nat) (h1 : List (List Int)) (h2 h3 : List Int) (K : AExit -> St -> Option α) (m : Nat) :
    loopN (trimSt ((q0am α N).ann 207 11).head ((q0am α N).ann 207 11).grow 4) (bodyK Try.prog (q0am α N) 1 0 207 Try.f207 11) (m + 1) (buildS q0ao [.n h0_0_r, .n h0_0_o, .n h0_0_n, .n h0_0_l, .n h0_0_c, .n h0_1_n, .n h0_1_l, .n h0_1_c, .n h0_2_n, .n h0_2_l, .n h0_2_c, .r h1, .l h2, .l h3]) (leaveLoop ((q0am α N).ann 207 11) 4 K) = q03u none h0_0_r h0_0_o h0_0_n h0_0_l h0_0_c h0_1_n h0_1_l h0_1_c h0_2_n h0_2_l h0_2_c h1 h2 h3 (fun h0_0_r_ h0_0_o_ h0_0_n_ h0_0_l_ h0_0_c_ h0_1_n_ h0_1_l_ h0_1_c_ h0_2_n_ h0_2_l_ h0_2_c_ h1_ h2_ h3_ => K (.exit 2) (buildS q0ap [.n h0_0_r_, .n h0_0_o_, .n h0_0_n_, .n h0_0_l_, .n h0_0_c_, .n h0_1_n_, .n h0_1_l_, .n h0_1_c_, .n h0_2_n_, .n h0_2_l_, .n h0_2_c_, .r h1_, .l h2_, .l h3_])) := by
  refine (loopN_round (m := m + 0)).trans ?_
  refine (q0aq N h0_0_r h0_0_o h0_0_n h0_0_l h0_0_c h0_1_n h0_1_l h0_1_c h0_2_n h0_2_l h0_2_c h1 h2 h3 _ K).trans ?_
  rfl
def q0as : SPat := ⟨[.undef, .undef, .undef, .undef, .undef, .undef, .nils, .undef, .undef, .undef, .undef, .undef, .undef, .undef, .undef, .undef, .undef, .undef, .undef, .undef, .undef, .undef, .undef, .undef, .undef, .slice ⟨⟨0, 0⟩, 0, 0, 3⟩ 3 3 1 true, .intC .i64 3, .intC .i64 2] ++ List.replicate 8 .undef, [[.vals [.sliceR 1 1 false, .sliceV 2 0 0 1 false, .sliceV 3 0 0 1 false]], [.pool .i64], [.vec .i64], [.vec .i64]]⟩
def q0at : SPat := ⟨[.undef, .undef, .undef, .undef, .undef, .undef, .nils] ++ List.replicate 29 .undef, [[.vals [.sliceR 1 1 false, .sliceV 2 0 0 1 false, .sliceV 3 0 0 1 false]], [.pool .i64], [.vec .i64], [.vec .i64]]⟩
theorem q0au {α : Type} (N h0_0_r h0_0_o h0_0_n h0_0_l h0_0_c h0_1_n h0_1_l h0_1_c h0_2_n h0_2_l h0_2_c : Nat) (h1 : List (List Int)) (h2 h3 : List Int) (kn : St -> Option α) (K : AExit -> St -> Option α) :
    roundK Try.prog (q0am α N) 1 0 207 Try.f207 11 4 (buildS q0as [.n h0_0_r, .n h0_0_o, .n h0_0_n, .n h0_0_l, .n h0_0_c, .n h0_1_n, .n h0_1_l, .n h0_1_c, .n h0_2_n, .n h0_2_l, .n h0_2_c, .r h1, .l h2, .l h3]) kn K = q03v none h0_0_r h0_0_o h0_0_n h0_0_l h0_0_c h0_1_n h0_1_l h0_1_c h0_2_n h0_2_l h0_2_c h1 h2 h3 (fun h0_0_r_ h0_0_o_ h0_0_n_ h0_0_l_ h0_0_c_ h0_1_n_ h0_1_l_ h0_1_c_ h0_2_n_ h0_2_l_ h0_2_c_ h1_ h2_ h3_ => kn (buildS q0ao [.n h0_0_r_, .n h0_0_o_, .n h0_0_n_, .n h0_0_l_, .n h0_0_c_, .n h0_1_n_, .n h0_1_l_, .n h0_1_c_, .n h0_2_n_, .n h0_2_l_, .n h0_2_c_, .r h1_, .l h2_, .l h3_])) (fun h0_0_r_ h0_0_o_ h0_0_n_ h0_0_l_ h0_0_c_ h0_1_n_ h0_1_l_ h0_1_c_ h0_2_n_ h0_2_l_ h0_2_c_ h1_ h2_ h3_ => K (.exit 2) (buildS q0at [.n h0_0_r_, .n h0_0_o_, .n h0_0_n_, .n h0_0_l_, .n h0_0_c_, .n h0_1_n_, .n h0_1_l_, .n h0_1_c_, .n h0_2_n_, .n h0_2_l_, .n h0_2_c_, .r h1_, .l h2_, .l h3_])) := by kernel_rfl
theorem q0av {α : Type} (N h0_0_r h0_0_o h0_0_n h0_0_l h0_0_c h0_1_n h0_1_l h0_1_c h0_2_n h0_2_l h0_2_c : Nat) (h1 : List (List Int)) (h2 h3 : List Int) (K : AExit -> St -> Option α) (m : Nat) :
    loopN (trimSt ((q0am α N).ann 207 11).head ((q0am α N).ann 207 11).grow 4) (bodyK Try.prog (q0am α N) 1 0 207 Try.f207 11) (m + 2) (buildS q0as [.n h0_0_r, .n h0_0_o, .n h0_0_n, .n h0_0_l, .n h0_0_c, .n h0_1_n, .n h0_1_l, .n h0_1_c, .n h0_2_n, .n h0_2_l, .n h0_2_c, .r h1, .l h2, .l h3]) (leaveLoop ((q0am α N).ann 207 11) 4 K) = q03w none h0_0_r h0_0_o h0_0_n h0_0_l h0_0_c h0_1_n h0_1_l h0_1_c h0_2_n h0_2_l h0_2_c h1 h2 h3 (fun h0_0_r_ h0_0_o_ h0_0_n_ h0_0_l_ h0_0_c_ h0_1_n_ h0_1_l_ h0_1_c_ h0_2_n_ h0_2_l_ h0_2_c_ h1_ h2_ h3_ => K (.exit 2) (buildS q0at [.n h0_0_r_, .n h0_0_o_, .n h0_0_n_, .n h0_0_l_, .n h0_0_c_, .n h0_1_n_, .n h0_1_l_, .n h0_1_c_, .n h0_2_n_, .n h0_2_l_, .n h0_2_c_, .r h1_, .l h2_, .l h3_])) := by
  refine (loopN_round (m := m + 1)).trans ?_
  refine (q0au N h0_0_r h0_0_o h0_0_n h0_0_l h0_0_c h0_1_n h0_1_l h0_1_c h0_2_n h0_2_l h0_2_c h1 h2 h3 _ K).trans ?_
  simp only [q0ar]
  rfl
def q0aw : SPat := ⟨[.undef, .undef, .undef, .undef, .undef, .undef, .nils, .undef, .undef, .undef, .undef, .undef, .undef, .undef, .undef, .undef, .undef, .undef, .undef, .undef, .undef, .undef, .undef, .undef, .undef, .slice ⟨⟨0, 0⟩, 0, 0, 3⟩ 3 3 1 true, .intC .i64 3, .intC .i64 1] ++ List.replicate 8 .undef, [[.vals [.sliceR 1 1 false, .sliceV 2 0 0 1 false, .sliceV 3 0 0 1 false]], [.pool .i64], [.vec .i64], [.vec .i64]]⟩
def q0ax : SPat := ⟨[.undef, .undef, .undef, .undef, .undef, .undef, .nils] ++ List.replicate 29 .undef, [[.vals [.sliceR 1 1 false, .sliceV 2 0 0 1 false, .sliceV 3 0 0 1 false]], [.pool .i64], [.vec .i64], [.vec .i64]]⟩
theorem q0ay {α : Type} (N h0_0_r h0_0_o h0_0_n h0_0_l h0_0_c h0_1_n h0_1_l h0_1_c h0_2_n h0_2_l h0_2_c : Nat) (h1 : List (List Int)) (h2 h3 : List Int) (kn : St -> Option α) (K : AExit -> St -> Option α) :
    roundK Try.prog (q0am α N) 1 0 207 Try.f207 11 4 (buildS q0aw [.n h0_0_r, .n h0_0_o, .n h0_0_n, .n h0_0_l, .n h0_0_c, .n h0_1_n, .n h0_1_l, .n h0_1_c, .n h0_2_n, .n h0_2_l, .n h0_2_c, .r h1, .l h2, .l h3]) kn K = q03x none h0_0_r h0_0_o h0_0_n h0_0_l h0_0_c h0_1_n h0_1_l h0_1_c h0_2_n h0_2_l h0_2_c h1 h2 h3 (fun h0_0_r_ h0_0_o_ h0_0_n_ h0_0_l_ h0_0_c_ h0_1_n_ h0_1_l_ h0_1_c_ h0_2_n_ h0_2_l_ h0_2_c_ h1_ h2_ h3_ => kn (buildS q0as [.n h0_0_r_, .n h0_0_o_, .n h0_0_n_, .n h0_0_l_, .n h0_0_c_, .n h0_1_n_, .n h0_1_l_, .n h0_1_c_, .n h0_2_n_, .n h0_2_l_, .n h0_2_c_, .r h1_, .l h2_, .l h3_])) (fun h0_0_r_ h0_0_o_ h0_0_n_ h0_0_l_ h0_0_c_ h0_1_n_ h0_1_l_ h0_1_c_ h0_2_n_ h0_2_l_ h0_2_c_ h1_ h2_ h3_ => K (.exit 2) (buildS q0ax [.n h0_0_r_, .n h0_0_o_, .n h0_0_n_, .n h0_0_l_, .n h0_0_c_, .n h0_1_n_, .n h0_1_l_, .n h0_1_c_, .n h0_2_n_, .n h0_2_l_, .n h0_2_c_, .r h1_, .l h2_, .l h3_])) := by kernel_rfl
theorem q0az {α : Type} (N h0_0_r h0_0_o h0_0_n h0_0_l h0_0_c h0_1_n h0_1_l h0_1_c h0_2_n h0_2_l h0_2_c : Nat) (h1 : List (List Int)) (h2 h3 : List Int) (K : AExit -> St -> Option α) (m : Nat) :
    loopN (trimSt ((q0am α N).ann 207 11).head ((q0am α N).ann 207 11).grow 4) (bodyK Try.prog (q0am α N) 1 0 207 Try.f207 11) (m + 3) (buildS q0aw [.n h0_0_r, .n h0_0_o, .n h0_0_n, .n h0_0_l, .n h0_0_c, .n h0_1_n, .n h0_1_l, .n h0_1_c, .n h0_2_n, .n h0_2_l, .n h0_2_c, .r h1, .l h2, .l h3]) (leaveLoop ((q0am α N).ann 207 11) 4 K) = q03y none h0_0_r h0_0_o h0_0_n h0_0_l h0_0_c h0_1_n h0_1_l h0_1_c h0_2_n h0_2_l h0_2_c h1 h2 h3 (fun h0_0_r_ h0_0_o_ h0_0_n_ h0_0_l_ h0_0_c_ h0_1_n_ h0_1_l_ h0_1_c_ h0_2_n_ h0_2_l_ h0_2_c_ h1_ h2_ h3_ => K (.exit 2) (buildS q0ax [.n h0_0_r_, .n h0_0_o_, .n h0_0_n_, .n h0_0_l_, .n h0_0_c_, .n h0_1_n_, .n h0_1_l_, .n h0_1_c_, .n h0_2_n_, .n h0_2_l_, .n h0_2_c_, .r h1_, .l h2_, .l h3_])) := by
  refine (loopN_round (m := m + 2)).trans ?_
  refine (q0ay N h0_0_r h0_0_o h0_0_n h0_0_l h0_0_c h0_1_n h0_1_l h0_1_c h0_2_n h0_2_l h0_2_c h1 h2 h3 _ K).trans ?_
  simp only [q0av]
  rfl
def q0b0 : SPat := ⟨[.undef, .undef, .undef, .undef, .undef, .undef, .nils, .undef, .undef, .undef, .undef, .undef, .undef, .undef, .undef, .undef, .undef, .undef, .undef, .undef, .undef, .undef, .undef, .undef, .undef, .slice ⟨⟨0, 0⟩, 0, 0, 3⟩ 3 3 1 true, .intC .i64 3, .intC .i64 0] ++ List.replicate 8 .undef, [[.vals [.sliceR 1 1 false, .sliceV 2 0 0 1 false, .sliceV 3 0 0 1 false]], [.pool .i64], [.vec .i64], [.vec .i64]]⟩
def q0b1 : SPat := ⟨[.undef, .undef, .undef, .undef, .undef, .undef, .nils] ++ List.replicate 29 .undef, [[.vals [.sliceR 1 1 false, .sliceV 2 0 0 1 false, .sliceV 3 0 0 1 false]], [.pool .i64], [.vec .i64], [.vec .i64]]⟩
theorem q0b2 {α : Type} (N h0_0_r h0_0_o h0_0_n h0_0_l h0_0_c h0_1_n h0_1_l h0_1_c h0_2_n h0_2_l h0_2_c : Nat) (h1 : List (List Int)) (h2 h3 : List Int) (kn : St -> Option α) (K : AExit -> St -> Option α) :
    roundK Try.prog (q0am α N) 1 0 207 Try.f207 11 4 (buildS q0b0 [.n h0_0_r, .n h0_0_o, .n h0_0_n, .n h0_0_l, .n h0_0_c, .n h0_1_n, .n h0_1_l, .n h0_1_c, .n h0_2_n, .n h0_2_l, .n h0_2_c, .r h1, .l h2, .l h3]) kn K = q03z none h0_0_r h0_0_o h0_0_n h0_0_l h0_0_c h0_1_n h0_1_l h0_1_c h0_2_n h0_2_l h0_2_c h1 h2 h3 (fun h0_0_r_ h0_0_o_ h0_0_n_ h0_0_l_ h0_0_c_ h0_1_n_ h0_1_l_ h0_1_c_ h0_2_n_ h0_2_l_ h0_2_c_ h1_ h2_ h3_ => kn (buildS q0aw [.n h0_0_r_, .n h0_0_o_, .n h0_0_n_, .n h0_0_l_, .n h0_0_c_, .n h0_1_n_, .n h0_1_l_, .n h0_1_c_, .n h0_2_n_, .n h0_2_l_, .n h0_2_c_, .r h1_, .l h2_, .l h3_])) (fun h0_0_r_ h0_0_o_ h0_0_n_ h0_0_l_ h0_0_c_ h0_1_n_ h0_1_l_ h0_1_c_ h0_2_n_ h0_2_l_ h0_2_c_ h1_ h2_ h3_ => K (.exit 2) (buildS q0b1 [.n h0_0_r_, .n h0_0_o_, .n h0_0_n_, .n h0_0_l_, .n h0_0_c_, .n h0_1_n_, .n h0_1_l_, .n h0_1_c_, .n h0_2_n_, .n h0_2_l_, .n h0_2_c_, .r h1_, .l h2_, .l h3_])) := by kernel_rfl
theorem q0b3 {α : Type} (N h0_0_r h0_0_o h0_0_n h0_0_l h0_0_c h0_1_n h0_1_l h0_1_c h0_2_n h0_2_l h0_2_c : Nat) (h1 : List (List Int)) (h2 h3 : List Int) (K : AExit -> St -> Option α) (m : Nat) :
    loopN (trimSt ((q0am α N).ann 207 11).head ((q0am α N).ann 207 11).grow 4) (bodyK Try.prog (q0am α N) 1 0 207 Try.f207 11) (m + 4) (buildS q0b0 [.n h0_0_r, .n h0_0_o, .n h0_0_n, .n h0_0_l, .n h0_0_c, .n h0_1_n, .n h0_1_l, .n h0_1_c, .n h0_2_n, .n h0_2_l, .n h0_2_c, .r h1, .l h2, .l h3]) (leaveLoop ((q0am α N).ann 207 11) 4 K) = q040 none h0_0_r h0_0_o h0_0_n h0_0_l h0_0_c h0_1_n h0_1_l h0_1_c h0_2_n h0_2_l h0_2_c h1 h2 h3 (fun h0_0_r_ h0_0_o_ h0_0_n_ h0_0_l_ h0_0_c_ h0_1_n_ h0_1_l_ h0_1_c_ h0_2_n_ h0_2_l_ h0_2_c_ h1_ h2_ h3_ => K (.exit 2) (buildS q0b1 [.n h0_0_r_, .n h0_0_o_, .n h0_0_n_, .n h0_0_l_, .n h0_0_c_, .n h0_1_n_, .n h0_1_l_, .n h0_1_c_, .n h0_2_n_, .n h0_2_l_, .n h0_2_c_, .r h1_, .l h2_, .l h3_])) := by
  refine (loopN_round (m := m + 3)).trans ?_
  refine (q0b2 N h0_0_r h0_0_o h0_0_n h0_0_l h0_0_c h0_1_n h0_1_l h0_1_c h0_2_n h0_2_l h0_2_c h1 h2 h3 _ K).trans ?_
  simp only [q0az]
  rfl
def q0b4 (α : Type) (N : Nat) : Env α := (q0am α N).addLoop2 207 11 (loopSum2 ((q0am α N).ann 207 11) 0 q0b0 (fun l K => match l with
    | [.n h0_0_r, .n h0_0_o, .n h0_0_n, .n h0_0_l, .n h0_0_c, .n h0_1_n, .n h0_1_l, .n h0_1_c, .n h0_2_n, .n h0_2_l, .n h0_2_c, .r h1, .l h2, .l h3] => q040 none h0_0_r h0_0_o h0_0_n h0_0_l h0_0_c h0_1_n h0_1_l h0_1_c h0_2_n h0_2_l h0_2_c h1 h2 h3 (fun h0_0_r_ h0_0_o_ h0_0_n_ h0_0_l_ h0_0_c_ h0_1_n_ h0_1_l_ h0_1_c_ h0_2_n_ h0_2_l_ h0_2_c_ h1_ h2_ h3_ => K (.exit 2) (buildS q0b1 [.n h0_0_r_, .n h0_0_o_, .n h0_0_n_, .n h0_0_l_, .n h0_0_c_, .n h0_1_n_, .n h0_1_l_, .n h0_1_c_, .n h0_2_n_, .n h0_2_l_, .n h0_2_c_, .r h1_, .l h2_, .l h3_]))
    | _ => none) ((q0am α N).ls 207 11))
theorem q0b5 {α : Type} (N : Nat) : EnvOk Try.prog (q0b4 α N) := (q0an N).addLoop2 Try.func207 (by kernel_rfl) (loopSum_okN q05l q05m (q0an N) Try.func207 (by kernel_rfl) (d := 1) (ro := 0) (fuel := 4) fun l K r h => by
  split at h
  · exact (q0b3 N _ _ _ _ _ _ _ _ _ _ _ _ _ _ K 0).trans h
  · cases h)
def q0b6 : SPat := ⟨[.slice ⟨⟨0, 0⟩, 0, 0, 3⟩ 3 3 1 true], [[.vals [.sliceR 1 1 false, .sliceV 2 0 0 1 false, .sliceV 3 0 0 1 false]], [.pool .i64], [.vec .i64], [.vec .i64]]⟩
def q0b7 : SPat := ⟨[.sliceR 1 1 false], [[.vals [.sliceR 1 1 false, .sliceV 2 0 0 1 false, .sliceV 3 0 0 1 false]], [.pool .i64], [.vec .i64], [.vec .i64], [.vec .i64]]⟩
def q0b8 : SPat := ⟨[.sliceR 1 1 false], [[.vals [.sliceR 1 1 false, .sliceV 2 0 0 1 false, .sliceV 3 0 0 1 false]], [.pool .i64], [.vec .i64], [.vec .i64]]⟩
theorem q0b9 {α : Type} (N h0_0_r h0_0_o h0_0_n h0_0_l h0_0_c h0_1_n h0_1_l h0_1_c h0_2_n h0_2_l h0_2_c : Nat) (h1 : List (List Int)) (h2 h3 : List Int) (K : AV -> Heap -> Option α) :
    (giveRes 1 (callK Try.prog (q0b4 α N) 1 207)) 0 (buildS q0b6 [.n h0_0_r, .n h0_0_o, .n h0_0_n, .n h0_0_l, .n h0_0_c, .n h0_1_n, .n h0_1_l, .n h0_1_c, .n h0_2_n, .n h0_2_l, .n h0_2_c, .r h1, .l h2, .l h3]).t (buildS q0b6 [.n h0_0_r, .n h0_0_o, .n h0_0_n, .n h0_0_l, .n h0_0_c, .n h0_1_n, .n h0_1_l, .n h0_1_c, .n h0_2_n, .n h0_2_l, .n h0_2_c, .r h1, .l h2, .l h3]).h K = q041 none N h0_0_r h0_0_o h0_0_n h0_0_l h0_0_c h0_1_n h0_1_l h0_1_c h0_2_n h0_2_l h0_2_c h1 h2 h3 (fun r_r_ r_o_ r_n_ r_l_ r_c_ h0_0_r_ h0_0_o_ h0_0_n_ h0_0_l_ h0_0_c_ h0_1_n_ h0_1_l_ h0_1_c_ h0_2_n_ h0_2_l_ h0_2_c_ h1_ h2_ h3_ h4_ => retK (buildS q0b7 [.n r_r_, .n r_o_, .n r_n_, .n r_l_, .n r_c_, .n h0_0_r_, .n h0_0_o_, .n h0_0_n_, .n h0_0_l_, .n h0_0_c_, .n h0_1_n_, .n h0_1_l_, .n h0_1_c_, .n h0_2_n_, .n h0_2_l_, .n h0_2_c_, .r h1_, .l h2_, .l h3_, .l h4_]) K) (fun r_r_ r_o_ r_n_ r_l_ r_c_ h0_0_r_ h0_0_o_ h0_0_n_ h0_0_l_ h0_0_c_ h0_1_n_ h0_1_l_ h0_1_c_ h0_2_n_ h0_2_l_ h0_2_c_ h1_ h2_ h3_ => retK (buildS q0b8 [.n r_r_, .n r_o_, .n r_n_, .n r_l_, .n r_c_, .n h0_0_r_, .n h0_0_o_, .n h0_0_n_, .n h0_0_l_, .n h0_0_c_, .n h0_1_n_, .n h0_1_l_, .n h0_1_c_, .n h0_2_n_, .n h0_2_l_, .n h0_2_c_, .r h1_, .l h2_, .l h3_]) K) := by kernel_rfl
def q0ba (α : Type) (N : Nat) : Env α := (q0b4 α N).addFun 207 false 0 q0b6 (fun l K => match l with
    | [.n h0_0_r, .n h0_0_o, .n h0_0_n, .n h0_0_l, .n h0_0_c, .n h0_1_n, .n h0_1_l, .n h0_1_c, .n h0_2_n, .n h0_2_l, .n h0_2_c, .r h1, .l h2, .l h3] => q041 none N h0_0_r h0_0_o h0_0_n h0_0_l h0_0_c h0_1_n h0_1_l h0_1_c h0_2_n h0_2_l h0_2_c h1 h2 h3 (fun r_r_ r_o_ r_n_ r_l_ r_c_ h0_0_r_ h0_0_o_ h0_0_n_ h0_0_l_ h0_0_c_ h0_1_n_ h0_1_l_ h0_1_c_ h0_2_n_ h0_2_l_ h0_2_c_ h1_ h2_ h3_ h4_ => retK (buildS q0b7 [.n r_r_, .n r_o_, .n r_n_, .n r_l_, .n r_c_, .n h0_0_r_, .n h0_0_o_, .n h0_0_n_, .n h0_0_l_, .n h0_0_c_, .n h0_1_n_, .n h0_1_l_, .n h0_1_c_, .n h0_2_n_, .n h0_2_l_, .n h0_2_c_, .r h1_, .l h2_, .l h3_, .l h4_]) K) (fun r_r_ r_o_ r_n_ r_l_ r_c_ h0_0_r_ h0_0_o_ h0_0_n_ h0_0_l_ h0_0_c_ h0_1_n_ h0_1_l_ h0_1_c_ h0_2_n_ h0_2_l_ h0_2_c_ h1_ h2_ h3_ => retK (buildS q0b8 [.n r_r_, .n r_o_, .n r_n_, .n r_l_, .n r_c_, .n h0_0_r_, .n h0_0_o_, .n h0_0_n_, .n h0_0_l_, .n h0_0_c_, .n h0_1_n_, .n h0_1_l_, .n h0_1_c_, .n h0_2_n_, .n h0_2_l_, .n h0_2_c_, .r h1_, .l h2_, .l h3_]) K)
    | _ => none)
theorem q0bb {α : Type} (N : Nat) : EnvOk Try.prog (q0ba α N) := (q0b5 N).addFunG q05l q05m (d := 1) fun l K r h => by
  split at h
  · exact (q0b9 N _ _ _ _ _ _ _ _ _ _ _ _ _ _ K).trans h
  · cases h
def q0bc : SPat := ⟨[.undef, .ptr ⟨⟨0, 0⟩, 0, 0, 1⟩, .undef, .sliceV 1 0 0 3 false, .ptr ⟨⟨4, 0⟩, 0, 0, 8⟩, .sliceV 3 0 0 1 false, .undef, .undef, .sliceR 2 1 false, .undef, .undef, .undef, .undef, .undef, .undef, .undef, .undef, .undef, .undef, .undef, .undef, .undef, .undef, .undef, .sliceV 5 0 0 1 false, .int .i64, .int .i64, .undef, .undef, .undef, .undef, .sliceR 6 1 false, .int .i64, .int .i64] ++ List.replicate 67 .undef, [[.vals [.int .i64], .ints .u8 8, .ints .u8 8], [.vec .i64], [.pool .i64], [.hdr 2], [.ints .i64 8], [.hdr 6], [.pool .i64], [.vec .i64]]⟩
def q0bd : SPat := ⟨[.undef, .ptr ⟨⟨0, 0⟩, 0, 0, 1⟩, .undef, .sliceV 1 0 0 3 false, .ptr ⟨⟨4, 0⟩, 0, 0, 8⟩, .sliceV 3 0 0 1 false, .undef, .undef, .sliceR 2 1 false, .undef, .undef, .undef, .undef, .undef, .undef, .undef, .undef, .undef, .undef, .undef, .undef, .undef, .undef, .undef, .sliceV 5 0 0 1 false, .int .i64, .int .i64] ++ List.replicate 74 .undef, [[.vals [.int .i64], .ints .u8 8, .ints .u8 8], [.vec .i64], [.pool .i64], [.hdr 2], [.ints .i64 8], [.hdr 6], [.pool .i64], [.vec .i64]]⟩
theorem q0be {α : Type} (N t3_n t3_l t3_c t5_n t5_l t5_c t8_r t8_o t8_n t8_l t8_c t24_n t24_l t24_c : Nat) (t25 t26 : Int) (t31_r t31_o t31_n t31_l t31_c : Nat) (t32 t33 h0_0 : Int) (h0_1 h0_2 : NI) (h1 : List Int) (h2 : List (List Int)) (h3 : List (Nat × Nat)) (h4 : NI) (h5 : List (Nat × Nat)) (h6 : List (List Int)) (h7 : List Int) (kn : St -> Option α) (K : AExit -> St -> Option α) :
    roundK Try.prog (q0ba α N) 1 0 158 Try.f158 7 8 (buildS q0bc (.n t3_n :: .n t3_l :: .n t3_c :: .n t5_n :: .n t5_l :: .n t5_c :: .n t8_r :: .n t8_o :: .n t8_n :: .n t8_l :: .n t8_c :: .n t24_n :: .n t24_l :: .n t24_c :: .i t25 :: .i t26 :: .n t31_r :: .n t31_o :: .n t31_n :: .n t31_l :: .n t31_c :: .i t32 :: .i t33 :: .i h0_0 :: .f h0_1 :: .f h0_2 :: .l h1 :: .r h2 :: .p h3 :: .f h4 :: .p h5 :: .r h6 :: .l h7 :: [])) kn K = q042 none N t3_n t3_l t3_c t5_n t5_l t5_c t24_n t24_l t24_c t25 t26 t31_r t31_o t31_n t31_l t31_c t32 h0_0 h0_1 h0_2 h1 h3 h4 h5 h6 h7 t8_r t8_o t8_n t8_l t8_c t33 h2 (fun t8_r t8_o t8_n t8_l t8_c t33 h2 => kn (buildS q0bc (.n t3_n :: .n t3_l :: .n t3_c :: .n t5_n :: .n t5_l :: .n t5_c :: .n t8_r :: .n t8_o :: .n t8_n :: .n t8_l :: .n t8_c :: .n t24_n :: .n t24_l :: .n t24_c :: .i t25 :: .i t26 :: .n t31_r :: .n t31_o :: .n t31_n :: .n t31_l :: .n t31_c :: .i t32 :: .i t33 :: .i h0_0 :: .f h0_1 :: .f h0_2 :: .l h1 :: .r h2 :: .p h3 :: .f h4 :: .p h5 :: .r h6 :: .l h7 :: []))) (fun t8_r_ t8_o_ t8_n_ t8_l_ t8_c_ h2_ => K (.exit 2) (buildS q0bd [.n t3_n, .n t3_l, .n t3_c, .n t5_n, .n t5_l, .n t5_c, .n t8_r_, .n t8_o_, .n t8_n_, .n t8_l_, .n t8_c_, .n t24_n, .n t24_l, .n t24_c, .i t25, .i t26, .i h0_0, .f h0_1, .f h0_2, .l h1, .r h2_, .p h3, .f h4, .p h5, .r h6, .l h7])) := by kernel_rfl
theorem q0bf {α : Type} (N t3_n t3_l t3_c t5_n t5_l t5_c t24_n t24_l t24_c : Nat) (t25 t26 : Int) (t31_r t31_o t31_n t31_l t31_c : Nat) (t32 h0_0 : Int) (h0_1 h0_2 : NI) (h1 : List Int) (h3 : List (Nat × Nat)) (h4 : NI) (h5 : List (Nat × Nat)) (h6 : List (List Int)) (h7 : List Int) (K : AExit -> St -> Option α) : ∀ (m t8_r t8_o t8_n t8_l t8_c : Nat) (t33 : Int) (h2 : List (List Int)),
    loopN (trimSt ((q0ba α N).ann 158 7).head ((q0ba α N).ann 158 7).grow 8) (bodyK Try.prog (q0ba α N) 1 0 158 Try.f158 7) m (buildS q0bc (.n t3_n :: .n t3_l :: .n t3_c :: .n t5_n :: .n t5_l :: .n t5_c :: .n t8_r :: .n t8_o :: .n t8_n :: .n t8_l :: .n t8_c :: .n t24_n :: .n t24_l :: .n t24_c :: .i t25 :: .i t26 :: .n t31_r :: .n t31_o :: .n t31_n :: .n t31_l :: .n t31_c :: .i t32 :: .i t33 :: .i h0_0 :: .f h0_1 :: .f h0_2 :: .l h1 :: .r h2 :: .p h3 :: .f h4 :: .p h5 :: .r h6 :: .l h7 :: [])) (leaveLoop ((q0ba α N).ann 158 7) 8 K) = q043 none N t3_n t3_l t3_c t5_n t5_l t5_c t24_n t24_l t24_c t25 t26 t31_r t31_o t31_n t31_l t31_c t32 h0_0 h0_1 h0_2 h1 h3 h4 h5 h6 h7 m t8_r t8_o t8_n t8_l t8_c t33 h2 (fun t8_r_ t8_o_ t8_n_ t8_l_ t8_c_ h2_ => K (.exit 2) (buildS q0bd [.n t3_n, .n t3_l, .n t3_c, .n t5_n, .n t5_l, .n t5_c, .n t8_r_, .n t8_o_, .n t8_n_, .n t8_l_, .n t8_c_, .n t24_n, .n t24_l, .n t24_c, .i t25, .i t26, .i h0_0, .f h0_1, .f h0_2, .l h1, .r h2_, .p h3, .f h4, .p h5, .r h6, .l h7])) := by
  intro m
  induction m with
  | zero => intros; rfl
  | succ m ih =>
    intro t8_r t8_o t8_n t8_l t8_c t33 h2
    rw [loopN_round]
    refine (q0be N t3_n t3_l t3_c t5_n t5_l t5_c t8_r t8_o t8_n t8_l t8_c t24_n t24_l t24_c t25 t26 t31_r t31_o t31_n t31_l t31_c t32 t33 h0_0 h0_1 h0_2 h1 h2 h3 h4 h5 h6 h7 _ K).trans ?_
    simp only [ih]
    rfl
def q0bg (α : Type) (N : Nat) : Env α := (q0ba α N).addLoop2 158 7 (giveSlot 8 2 (loopSum2 ((q0ba α N).ann 158 7) 0 q0bc (fun l K => match l with
    | (.n t3_n :: .n t3_l :: .n t3_c :: .n t5_n :: .n t5_l :: .n t5_c :: .n t8_r :: .n t8_o :: .n t8_n :: .n t8_l :: .n t8_c :: .n t24_n :: .n t24_l :: .n t24_c :: .i t25 :: .i t26 :: .n t31_r :: .n t31_o :: .n t31_n :: .n t31_l :: .n t31_c :: .i t32 :: .i t33 :: .i h0_0 :: .f h0_1 :: .f h0_2 :: .l h1 :: .r h2 :: .p h3 :: .f h4 :: .p h5 :: .r h6 :: .l h7 :: []) => q043 none N t3_n t3_l t3_c t5_n t5_l t5_c t24_n t24_l t24_c t25 t26 t31_r t31_o t31_n t31_l t31_c t32 h0_0 h0_1 h0_2 h1 h3 h4 h5 h6 h7 N t8_r t8_o t8_n t8_l t8_c t33 h2 (fun t8_r_ t8_o_ t8_n_ t8_l_ t8_c_ h2_ => K (.exit 2) (buildS q0bd [.n t3_n, .n t3_l, .n t3_c, .n t5_n, .n t5_l, .n t5_c, .n t8_r_, .n t8_o_, .n t8_n_, .n t8_l_, .n t8_c_, .n t24_n, .n t24_l, .n t24_c, .i t25, .i t26, .i h0_0, .f h0_1, .f h0_2, .l h1, .r h2_, .p h3, .f h4, .p h5, .r h6, .l h7]))
    | _ => none) none))
theorem q0bh {α : Type} (N : Nat) : EnvOk Try.prog (q0bg α N) := (q0bb N).addGive Try.func158 (by kernel_rfl) (loopSum_ok q05l q05m (q0bb N) Try.func158 (by kernel_rfl) (d := 1) (ro := 0) fun l K r h => by
  split at h
  · exact (q0bf N _ _ _ _ _ _ _ _ _ _ _ _ _ _ _ _ _ _ _ _ _ _ _ _ _ _ K N _ _ _ _ _ _ _).trans h
  · cases h)
def q0bi : SPat := ⟨[.undef, .ptr ⟨⟨0, 0⟩, 0, 0, 1⟩, .undef, .sliceV 1 0 0 3 false, .ptr ⟨⟨4, 0⟩, 0, 0, 8⟩, .sliceV 3 0 0 1 false, .undef, .undef, .undef, .undef, .undef, .undef, .undef, .undef, .undef, .undef, .undef, .undef, .undef, .undef, .undef, .undef, .undef, .undef, .sliceV 5 0 0 1 false, .int .i64, .int .i64] ++ List.replicate 74 .undef, [[.vals [.int .i64], .ints .u8 8, .ints .u8 8], [.vec .i64], [.pool .i64], [.hdr 2], [.ints .i64 8], [.hdr 6], [.pool .i64]]⟩
def q0bj : SPat := ⟨[.undef, .undef, .undef, .undef, .undef, .sliceV 3 0 0 1 false] ++ List.replicate 95 .undef, [[.vals [.int .i64], .ints .u8 8, .ints .u8 8], [.vec .i64], [.pool .i64], [.hdr 2], [.ints .i64 8], [.hdr 6], [.pool .i64]]⟩
theorem q0bk {α : Type} (N t3_n t3_l t3_c t5_n t5_l t5_c t24_n t24_l t24_c : Nat) (t25 t26 h0_0 : Int) (h0_1 h0_2 : NI) (h1 : List Int) (h2 : List (List Int)) (h3 : List (Nat × Nat)) (h4 : NI) (h5 : List (Nat × Nat)) (h6 : List (List Int)) (kn : St -> Option α) (K : AExit -> St -> Option α) :
    roundK Try.prog (q0bg α N) 1 0 158 Try.f158 3 7 (buildS q0bi [.n t3_n, .n t3_l, .n t3_c, .n t5_n, .n t5_l, .n t5_c, .n t24_n, .n t24_l, .n t24_c, .i t25, .i t26, .i h0_0, .f h0_1, .f h0_2, .l h1, .r h2, .p h3, .f h4, .p h5, .r h6]) kn K = q044 none N t3_n t3_l t3_c t24_n t24_l t24_c t25 h0_0 h0_1 h0_2 h1 h4 h5 h6 t5_n t5_l t5_c t26 h2 h3 (fun t5_n t5_l t5_c t26 h2 h3 => kn (buildS q0bi [.n t3_n, .n t3_l, .n t3_c, .n t5_n, .n t5_l, .n t5_c, .n t24_n, .n t24_l, .n t24_c, .i t25, .i t26, .i h0_0, .f h0_1, .f h0_2, .l h1, .r h2, .p h3, .f h4, .p h5, .r h6])) (fun t5_n_ t5_l_ t5_c_ h2_ h3_ => K (.exit 0) (buildS q0bj [.n t5_n_, .n t5_l_, .n t5_c_, .i h0_0, .f h0_1, .f h0_2, .l h1, .r h2_, .p h3_, .f h4, .p h5, .r h6])) := by kernel_rfl
theorem q0bl {α : Type} (N t3_n t3_l t3_c t24_n t24_l t24_c : Nat) (t25 h0_0 : Int) (h0_1 h0_2 : NI) (h1 : List Int) (h4 : NI) (h5 : List (Nat × Nat)) (h6 : List (List Int)) (K : AExit -> St -> Option α) : ∀ (m t5_n t5_l t5_c : Nat) (t26 : Int) (h2 : List (List Int)) (h3 : List (Nat × Nat)),
    loopN (trimSt ((q0bg α N).ann 158 3).head ((q0bg α N).ann 158 3).grow 7) (bodyK Try.prog (q0bg α N) 1 0 158 Try.f158 3) m (buildS q0bi [.n t3_n, .n t3_l, .n t3_c, .n t5_n, .n t5_l, .n t5_c, .n t24_n, .n t24_l, .n t24_c, .i t25, .i t26, .i h0_0, .f h0_1, .f h0_2, .l h1, .r h2, .p h3, .f h4, .p h5, .r h6]) (leaveLoop ((q0bg α N).ann 158 3) 7 K) = q045 none N t3_n t3_l t3_c t24_n t24_l t24_c t25 h0_0 h0_1 h0_2 h1 h4 h5 h6 m t5_n t5_l t5_c t26 h2 h3 (fun t5_n_ t5_l_ t5_c_ h2_ h3_ => K (.exit 0) (buildS q0bj [.n t5_n_, .n t5_l_, .n t5_c_, .i h0_0, .f h0_1, .f h0_2, .l h1, .r h2_, .p h3_, .f h4, .p h5, .r h6])) := by
  intro m
  induction m with
  | zero => intros; rfl
  | succ m ih =>
    intro t5_n t5_l t5_c t26 h2 h3
    rw [loopN_round]
    refine (q0bk N t3_n t3_l t3_c t5_n t5_l t5_c t24_n t24_l t24_c t25 t26 h0_0 h0_1 h0_2 h1 h2 h3 h4 h5 h6 _ K).trans ?_
    simp only [ih]
    rfl
def q0bm (α : Type) (N : Nat) : Env α := (q0bg α N).addLoop2 158 3 (loopSum2 ((q0bg α N).ann 158 3) 0 q0bi (fun l K => match l with
    | [.n t3_n, .n t3_l, .n t3_c, .n t5_n, .n t5_l, .n t5_c, .n t24_n, .n t24_l, .n t24_c, .i t25, .i t26, .i h0_0, .f h0_1, .f h0_2, .l h1, .r h2, .p h3, .f h4, .p h5, .r h6] => q045 none N t3_n t3_l t3_c t24_n t24_l t24_c t25 h0_0 h0_1 h0_2 h1 h4 h5 h6 N t5_n t5_l t5_c t26 h2 h3 (fun t5_n_ t5_l_ t5_c_ h2_ h3_ => K (.exit 0) (buildS q0bj [.n t5_n_, .n t5_l_, .n t5_c_, .i h0_0, .f h0_1, .f h0_2, .l h1, .r h2_, .p h3_, .f h4, .p h5, .r h6]))
    | _ => none) ((q0bg α N).ls 158 3))
theorem q0bn {α : Type} (N : Nat) : EnvOk Try.prog (q0bm α N) := (q0bh N).addLoop2 Try.func158 (by kernel_rfl) (loopSum_ok q05l q05m (q0bh N) Try.func158 (by kernel_rfl) (d := 1) (ro := 0) fun l K r h => by
  split at h
  · exact (q0bl N _ _ _ _ _ _ _ _ _ _ _ _ _ _ K N _ _ _ _ _ _).trans h
  · cases h)
def q0bo : SPat := ⟨[.agg [.vals [.int .i64], .ints .u8 8, .ints .u8 8]], []⟩
def q0bp : SPat := ⟨[.sliceV 0 0 0 1 false], [[.hdr 1], [.pool .i64]]⟩
theorem q0bq {α : Type} (N : Nat) (g_0 : Int) (g_1 g_2 : NI) (K : AV -> Heap -> Option α) :
    callK Try.prog (q0bm α N) 1 158 0 (buildS q0bo [.i g_0, .f g_1, .f g_2]).t (buildS q0bo [.i g_0, .f g_1, .f g_2]).h K = q046 none N g_0 g_1 g_2 (fun r_n_ r_l_ r_c_ h0_ h1_ => retK (buildS q0bp [.n r_n_, .n r_l_, .n r_c_, .p h0_, .r h1_]) K) := by kernel_rfl
def q0br (α : Type) (N : Nat) : Env α := (q0bm α N).addFun 158 true 0 q0bo (fun l K => match l with
    | [.i g_0, .f g_1, .f g_2] => q046 none N g_0 g_1 g_2 (fun r_n_ r_l_ r_c_ h0_ h1_ => retK (buildS q0bp [.n r_n_, .n r_l_, .n r_c_, .p h0_, .r h1_]) K)
    | _ => none)
theorem q0bs {α : Type} (N : Nat) : EnvOk Try.prog (q0br α N) := (q0bn N).addFun q05l q05m (d := 1) fun l K r h => by
  split at h
  · exact (q0bq N _ _ _ K).trans h
  · cases h
def q0bt : SPat := ⟨[.agg [.vals [.int .i64], .ints .u8 8, .ints .u8 8], .func 158 []], []⟩
def q0bu : SPat := ⟨[.tuple [.nils, .int .i64]], []⟩
def q0bv : SPat := ⟨[.tuple [.sliceV 0 0 0 1 false, .int .i64]], [[.hdr 1], [.pool .i64]]⟩
theorem q0bw {α : Type} (N : Nat) (g_0 : Int) (g_1 g_2 : NI) (K : AV -> Heap -> Option α) :
    callK Try.prog (q0br α N) 1 93 0 (buildS q0bt [.i g_0, .f g_1, .f g_2]).t (buildS q0bt [.i g_0, .f g_1, .f g_2]).h K = q047 none N g_0 g_1 g_2 (fun r_1_ => retK (buildS q0bu [.i r_1_]) K) (fun r_0_n_ r_0_l_ r_0_c_ r_1_ h0_ h1_ => retK (buildS q0bv [.n r_0_n_, .n r_0_l_, .n r_0_c_, .i r_1_, .p h0_, .r h1_]) K) := by kernel_rfl
def q0bx (α : Type) (N : Nat) : Env α := (q0br α N).addFun 93 true 0 q0bt (fun l K => match l with
    | [.i g_0, .f g_1, .f g_2] => q047 none N g_0 g_1 g_2 (fun r_1_ => retK (buildS q0bu [.i r_1_]) K) (fun r_0_n_ r_0_l_ r_0_c_ r_1_ h0_ h1_ => retK (buildS q0bv [.n r_0_n_, .n r_0_l_, .n r_0_c_, .i r_1_, .p h0_, .r h1_]) K)
    | _ => none)
theorem q0by {α : Type} (N : Nat) : EnvOk Try.prog (q0bx α N) := (q0bs N).addFun q05l q05m (d := 1) fun l K r h => by
  split at h
  · exact (q0bw N _ _ _ K).trans h
  · cases h
def q0bz : SPat := ⟨[.agg [.vals [.int .i64], .ints .u8 8, .ints .u8 8]], []⟩
def q0c0 : SPat := ⟨[.tuple [.nils, .int .i64]], []⟩
def q0c1 : SPat := ⟨[.tuple [.sliceV 0 0 0 1 false, .int .i64]], [[.hdr 1], [.pool .i64]]⟩
theorem q0c2 {α : Type} (N : Nat) (g_0 : Int) (g_1 g_2 : NI) (K : AV -> Heap -> Option α) :
    callK Try.prog (q0bx α N) 1 65 0 (buildS q0bz [.i g_0, .f g_1, .f g_2]).t (buildS q0bz [.i g_0, .f g_1, .f g_2]).h K = q048 none N g_0 g_1 g_2 (fun r_1_ => retK (buildS q0c0 [.i r_1_]) K) (fun r_0_n_ r_0_l_ r_0_c_ r_1_ h0_ h1_ => retK (buildS q0c1 [.n r_0_n_, .n r_0_l_, .n r_0_c_, .i r_1_, .p h0_, .r h1_]) K) := by kernel_rfl
def q0c3 (α : Type) (N : Nat) : Env α := (q0bx α N).addFun 65 true 0 q0bz (fun l K => match l with
    | [.i g_0, .f g_1, .f g_2] => q048 none N g_0 g_1 g_2 (fun r_1_ => retK (buildS q0c0 [.i r_1_]) K) (fun r_0_n_ r_0_l_ r_0_c_ r_1_ h0_ h1_ => retK (buildS q0c1 [.n r_0_n_, .n r_0_l_, .n r_0_c_, .i r_1_, .p h0_, .r h1_]) K)
    | _ => none)
theorem q0c4 {α : Type} (N : Nat) : EnvOk Try.prog (q0c3 α N) := (q0by N).addFun q05l q05m (d := 1) fun l K r h => by
  split at h
  · exact (q0c2 N _ _ _ K).trans h
  · cases h
def q0c5 : SPat := ⟨[.int .i64, .int .i64, .int .i64], []⟩
def q0c6 : SPat := ⟨[.bool], []⟩
theorem q0c7 {α : Type} (N : Nat) (n low high : Int) (K : AV -> Heap -> Option α) :
    callK Try.prog (q0c3 α N) 1 119 0 (buildS q0c5 [.i n, .i low, .i high]).t (buildS q0c5 [.i n, .i low, .i high]).h K = q000 none N n low high (fun r__ => retK (buildS q0c6 [.b r__]) K) := by kernel_rfl
def q0c8 (α : Type) (N : Nat) : Env α := (q0c3 α N).addFun 119 true 0 q0c5 (fun l K => match l with
    | [.i n, .i low, .i high] => q000 none N n low high (fun r__ => retK (buildS q0c6 [.b r__]) K)
    | _ => none)
theorem q0c9 {α : Type} (N : Nat) : EnvOk Try.prog (q0c8 α N) := (q0c4 N).addFun q05l q05m (d := 1) fun l K r h => by
  split at h
  · exact (q0c7 N _ _ _ K).trans h
  · cases h
def q0ca (α : Type) (N : Nat) : Env α := (q0c8 α N).addAnn 193 3 { head := [1, 2, 5, 6], grow := [], out := [], ret := [4] }
theorem q0cb {α : Type} (N : Nat) : EnvOk Try.prog (q0ca α N) := (q0c9 N).addAnn
def q0cc : SPat := ⟨[.undef, .int .i64, .ptr ⟨⟨0, 0⟩, 0, 0, 8⟩, .undef, .undef, .ptr ⟨⟨1, 0⟩, 0, 0, 8⟩, .int .i64] ++ List.replicate 29 .undef, [[.ints .u8 8], [.bools 8]]⟩
def q0cd : SPat := ⟨[.undef, .undef, .undef, .undef, .boolC false] ++ List.replicate 31 .undef, [[.ints .u8 8], [.bools 8]]⟩
def q0ce : SPat := ⟨[] ++ List.replicate 36 .undef, [[.ints .u8 8], [.bools 8]]⟩
theorem q0cf {α : Type} (N : Nat) (n i : Int) (h0 : NI) (h1 : Nat -> Bool) (kn : St -> Option α) (K : AExit -> St -> Option α) :
    roundK Try.prog (q0ca α N) 1 0 193 Try.f193 3 2 (buildS q0cc [.i n, .i i, .f h0, .g h1]) kn K = q002 none n h0 i h1 (fun i h1 => kn (buildS q0cc [.i n, .i i, .f h0, .g h1])) (fun h1_ => K .ret (buildS q0cd [.f h0, .g h1_])) (fun h1_ => K (.exit 0) (buildS q0ce [.f h0, .g h1_])) := by kernel_rfl
theorem q0cg {α : Type} (N : Nat) (n : Int) (h0 : NI) (K : AExit -> St -> Option α) : ∀ (m : Nat) (i : Int) (h1 : Nat -> Bool),
    loopN (trimSt ((q0ca α N).ann 193 3).head ((q0ca α N).ann 193 3).grow 2) (bodyK Try.prog (q0ca α N) 1 0 193 Try.f193 3) m (buildS q0cc [.i n, .i i, .f h0, .g h1]) (leaveLoop ((q0ca α N).ann 193 3) 2 K) = q003 none n h0 m i h1 (fun h1_ => K .ret (buildS q0cd [.f h0, .g h1_])) (fun h1_ => K (.exit 0) (buildS q0ce [.f h0, .g h1_])) := by
  intro m
  induction m with
  | zero => intros; rfl
  | succ m ih =>
    intro i h1
    rw [loopN_round]
    refine (q0cf N n i h0 h1 _ K).trans ?_
    simp only [ih]
    rfl
def q0ch (α : Type) (N : Nat) : Env α := (q0ca α N).addLoop2 193 3 (loopSum2 ((q0ca α N).ann 193 3) 0 q0cc (fun l K => match l with
    | [.i n, .i i, .f h0, .g h1] => q003 none n h0 N i h1 (fun h1_ => K .ret (buildS q0cd [.f h0, .g h1_])) (fun h1_ => K (.exit 0) (buildS q0ce [.f h0, .g h1_]))
    | _ => none) ((q0ca α N).ls 193 3))
theorem q0ci {α : Type} (N : Nat) : EnvOk Try.prog (q0ch α N) := (q0cb N).addLoop2 Try.func193 (by kernel_rfl) (loopSum_ok q05l q05m (q0cb N) Try.func193 (by kernel_rfl) (d := 1) (ro := 0) fun l K r h => by
  split at h
  · exact (q0cg N _ _ K N _ _).trans h
  · cases h)
def q0cj : SPat := ⟨[.agg [.ints .u8 8], .int .i64], []⟩
def q0ck : SPat := ⟨[.bool], []⟩
theorem q0cl {α : Type} (N : Nat) (list : NI) (n : Int) (K : AV -> Heap -> Option α) :
    callK Try.prog (q0ch α N) 1 193 0 (buildS q0cj [.f list, .i n]).t (buildS q0cj [.f list, .i n]).h K = q004 none N list n (fun r__ => retK (buildS q0ck [.b r__]) K) := by kernel_rfl
def q0cm (α : Type) (N : Nat) : Env α := (q0ch α N).addFun 193 true 0 q0cj (fun l K => match l with
    | [.f list, .i n] => q004 none N list n (fun r__ => retK (buildS q0ck [.b r__]) K)
    | _ => none)
theorem q0cn {α : Type} (N : Nat) : EnvOk Try.prog (q0cm α N) := (q0ci N).addFun q05l q05m (d := 1) fun l K r h => by
  split at h
  · exact (q0cl N _ _ K).trans h
  · cases h
def q0co (α : Type) (N : Nat) : Env α := (q0cm α N).addAnn 107 4 { head := [1, 3], grow := [], out := [], ret := [2] }
theorem q0cp {α : Type} (N : Nat) : EnvOk Try.prog (q0co α N) := (q0cn N).addAnn
def q0cq : SPat := ⟨[.undef, .ptr ⟨⟨0, 0⟩, 0, 0, 1⟩, .undef, .int .i64] ++ List.replicate 35 .undef, [[.vals [.int .i64], .ints .u8 8, .ints .u8 8]]⟩
def q0cr : SPat := ⟨[.undef, .undef, .boolC false] ++ List.replicate 36 .undef, [[.vals [.int .i64], .ints .u8 8, .ints .u8 8]]⟩
def q0cs : SPat := ⟨[] ++ List.replicate 39 .undef, [[.vals [.int .i64], .ints .u8 8, .ints .u8 8]]⟩
theorem q0ct {α : Type} (N : Nat) (i h0_0 : Int) (h0_1 h0_2 : NI) (kn : St -> Option α) (K : AExit -> St -> Option α) :
    roundK Try.prog (q0co α N) 1 0 107 Try.f107 4 1 (buildS q0cq [.i i, .i h0_0, .f h0_1, .f h0_2]) kn K = q005 none h0_0 h0_1 h0_2 i (fun i => kn (buildS q0cq [.i i, .i h0_0, .f h0_1, .f h0_2])) (K .ret (buildS q0cr [.i h0_0, .f h0_1, .f h0_2])) (K (.exit 0) (buildS q0cs [.i h0_0, .f h0_1, .f h0_2])) := by kernel_rfl
theorem q0cu {α : Type} (N : Nat) (h0_0 : Int) (h0_1 h0_2 : NI) (K : AExit -> St -> Option α) : ∀ (m : Nat) (i : Int),
    loopN (trimSt ((q0co α N).ann 107 4).head ((q0co α N).ann 107 4).grow 1) (bodyK Try.prog (q0co α N) 1 0 107 Try.f107 4) m (buildS q0cq [.i i, .i h0_0, .f h0_1, .f h0_2]) (leaveLoop ((q0co α N).ann 107 4) 1 K) = q006 none h0_0 h0_1 h0_2 m i (K .ret (buildS q0cr [.i h0_0, .f h0_1, .f h0_2])) (K (.exit 0) (buildS q0cs [.i h0_0, .f h0_1, .f h0_2])) := by
  intro m
  induction m with
  | zero => intros; rfl
  | succ m ih =>
    intro i
    rw [loopN_round]
    refine (q0ct N i h0_0 h0_1 h0_2 _ K).trans ?_
    simp only [ih]
    rfl
def q0cv (α : Type) (N : Nat) : Env α := (q0co α N).addLoop2 107 4 (loopSum2 ((q0co α N).ann 107 4) 0 q0cq (fun l K => match l with
    | [.i i, .i h0_0, .f h0_1, .f h0_2] => q006 none h0_0 h0_1 h0_2 N i (K .ret (buildS q0cr [.i h0_0, .f h0_1, .f h0_2])) (K (.exit 0) (buildS q0cs [.i h0_0, .f h0_1, .f h0_2]))
    | _ => none) ((q0co α N).ls 107 4))
theorem q0cw {α : Type} (N : Nat) : EnvOk Try.prog (q0cv α N) := (q0cp N).addLoop2 Try.func107 (by kernel_rfl) (loopSum_ok q05l q05m (q0cp N) Try.func107 (by kernel_rfl) (d := 1) (ro := 0) fun l K r h => by
  split at h
  · exact (q0cu N _ _ _ K N _).trans h
  · cases h)
def q0cx : SPat := ⟨[.agg [.vals [.int .i64], .ints .u8 8, .ints .u8 8]], []⟩
def q0cy : SPat := ⟨[.bool], []⟩
theorem q0cz {α : Type} (N : Nat) (g_0 : Int) (g_1 g_2 : NI) (K : AV -> Heap -> Option α) :
    callK Try.prog (q0cv α N) 1 107 0 (buildS q0cx [.i g_0, .f g_1, .f g_2]).t (buildS q0cx [.i g_0, .f g_1, .f g_2]).h K = q007 none N g_0 g_1 g_2 (fun r__ => retK (buildS q0cy [.b r__]) K) := by kernel_rfl
def q0d0 (α : Type) (N : Nat) : Env α := (q0cv α N).addFun 107 true 0 q0cx (fun l K => match l with
    | [.i g_0, .f g_1, .f g_2] => q007 none N g_0 g_1 g_2 (fun r__ => retK (buildS q0cy [.b r__]) K)
    | _ => none)
theorem q0d1 {α : Type} (N : Nat) : EnvOk Try.prog (q0d0 α N) := (q0cw N).addFun q05l q05m (d := 1) fun l K r h => by
  split at h
  · exact (q0cz N _ _ _ K).trans h
  · cases h
def q0d2 (α : Type) (N : Nat) : Env α := (q0d0 α N).addAnn 108 3 { head := [1, 2, 4, 5, 6], grow := [], out := [1, 2, 4, 5], ret := [2, 3] }
theorem q0d3 {α : Type} (N : Nat) : EnvOk Try.prog (q0d2 α N) := (q0d1 N).addAnn
def q0d4 : SPat := ⟨[.undef, .ptr ⟨⟨0, 0⟩, 0, 0, 1⟩, .ptr ⟨⟨1, 0⟩, 0, 0, 8⟩, .undef, .ptr ⟨⟨2, 0⟩, 0, 0, 8⟩, .intC .i64 0, .int .i64] ++ List.replicate 34 .undef, [[.vals [.int .i64], .ints .u8 8, .ints .u8 8], [.ints .i64 8], [.ints .i64 8]]⟩
def q0d5 : SPat := ⟨[.undef, .ptr ⟨⟨0, 0⟩, 0, 0, 1⟩, .ptr ⟨⟨1, 0⟩, 0, 0, 8⟩, .undef, .ptr ⟨⟨2, 0⟩, 0, 0, 8⟩, .intC .i64 0] ++ List.replicate 35 .undef, [[.vals [.int .i64], .ints .u8 8, .ints .u8 8], [.ints .i64 8], [.ints .i64 8]]⟩
theorem q0d6 {α : Type} (N : Nat) (i h0_0 : Int) (h0_1 h0_2 h1 h2 : NI) (kn : St -> Option α) (K : AExit -> St -> Option α) :
    roundK Try.prog (q0d2 α N) 1 0 108 Try.f108 3 3 (buildS q0d4 [.i i, .i h0_0, .f h0_1, .f h0_2, .f h1, .f h2]) kn K = q00r none h0_0 h0_1 h0_2 h1 i h2 (fun i h2 => kn (buildS q0d4 [.i i, .i h0_0, .f h0_1, .f h0_2, .f h1, .f h2])) (fun h2_ => K (.exit 0) (buildS q0d5 [.i h0_0, .f h0_1, .f h0_2, .f h1, .f h2_])) := by kernel_rfl
theorem q0d7 {α : Type} (N : Nat) (h0_0 : Int) (h0_1 h0_2 h1 : NI) (K : AExit -> St -> Option α) : ∀ (m : Nat) (i : Int) (h2 : NI),
    loopN (trimSt ((q0d2 α N).ann 108 3).head ((q0d2 α N).ann 108 3).grow 3) (bodyK Try.prog (q0d2 α N) 1 0 108 Try.f108 3) m (buildS q0d4 [.i i, .i h0_0, .f h0_1, .f h0_2, .f h1, .f h2]) (leaveLoop ((q0d2 α N).ann 108 3) 3 K) = q00s none h0_0 h0_1 h0_2 h1 m i h2 (fun h2_ => K (.exit 0) (buildS q0d5 [.i h0_0, .f h0_1, .f h0_2, .f h1, .f h2_])) := by
  intro m
  induction m with
  | zero => intros; rfl
  | succ m ih =>
    intro i h2
    rw [loopN_round]
    refine (q0d6 N i h0_0 h0_1 h0_2 h1 h2 _ K).trans ?_
    simp only [ih]
    rfl
def q0d8 (α : Type) (N : Nat) : Env α := (q0d2 α N).addLoop2 108 3 (loopSum2 ((q0d2 α N).ann 108 3) 0 q0d4 (fun l K => match l with
    | [.i i, .i h0_0, .f h0_1, .f h0_2, .f h1, .f h2] => q00s none h0_0 h0_1 h0_2 h1 N i h2 (fun h2_ => K (.exit 0) (buildS q0d5 [.i h0_0, .f h0_1, .f h0_2, .f h1, .f h2_]))
    | _ => none) ((q0d2 α N).ls 108 3))
theorem q0d9 {α : Type} (N : Nat) : EnvOk Try.prog (q0d8 α N) := (q0d3 N).addLoop2 Try.func108 (by kernel_rfl) (loopSum_ok q05l q05m (q0d3 N) Try.func108 (by kernel_rfl) (d := 1) (ro := 0) fun l K r h => by
  split at h
  · exact (q0d7 N _ _ _ _ K N _ _).trans h
  · cases h)
def q0da (α : Type) (N : Nat) : Env α := (q0d8 α N).addAnn 108 7 { head := [1, 2, 4, 5, 7], grow := [], out := [2, 4, 5], ret := [2, 3] }
theorem q0db {α : Type} (N : Nat) : EnvOk Try.prog (q0da α N) := (q0d9 N).addAnn
def q0dc (α : Type) (N : Nat) : Env α := (q0da α N).addAnn 108 11 { head := [1, 2, 4, 5, 7, 8], grow := [], out := [1, 2, 4, 5, 7], ret := [2, 3] }
theorem q0dd {α : Type} (N : Nat) : EnvOk Try.prog (q0dc α N) := (q0db N).addAnn
def q0de (α : Type) (N : Nat) : Env α := (q0dc α N).addAnn 157 2 { head := [1, 2, 3, 7], grow := [], out := [], ret := [6] }
theorem q0df {α : Type} (N : Nat) : EnvOk Try.prog (q0de α N) := (q0dd N).addAnn
def q0dg : SPat := ⟨[.undef, .int .i64, .int .i64, .ptr ⟨⟨0, 0⟩, 0, 0, 8⟩, .undef, .undef, .undef, .int .i64] ++ List.replicate 12 .undef, [[.ints .u8 8]]⟩
def q0dh : SPat := ⟨[.undef, .undef, .undef, .undef, .undef, .undef, .int .i64] ++ List.replicate 13 .undef, [[.ints .u8 8]]⟩
def q0di : SPat := ⟨[] ++ List.replicate 20 .undef, [[.ints .u8 8]]⟩
theorem q0dj {α : Type} (N : Nat) (n r_ i : Int) (h0 : NI) (kn : St -> Option α) (K : AExit -> St -> Option α) :
    roundK Try.prog (q0de α N) 1 0 157 Try.f157 2 1 (buildS q0dg [.i n, .i r_, .i i, .f h0]) kn K = q00i none n r_ h0 i (fun i => kn (buildS q0dg [.i n, .i r_, .i i, .f h0])) (fun t6_ => K .ret (buildS q0dh [.i t6_, .f h0])) (K (.exit 0) (buildS q0di [.f h0])) := by kernel_rfl
theorem q0dk {α : Type} (N : Nat) (n r_ : Int) (h0 : NI) (K : AExit -> St -> Option α) : ∀ (m : Nat) (i : Int),
    loopN (trimSt ((q0de α N).ann 157 2).head ((q0de α N).ann 157 2).grow 1) (bodyK Try.prog (q0de α N) 1 0 157 Try.f157 2) m (buildS q0dg [.i n, .i r_, .i i, .f h0]) (leaveLoop ((q0de α N).ann 157 2) 1 K) = q00j none n r_ h0 m i (fun t6_ => K .ret (buildS q0dh [.i t6_, .f h0])) (K (.exit 0) (buildS q0di [.f h0])) := by
  intro m
  induction m with
  | zero => intros; rfl
  | succ m ih =>
    intro i
    rw [loopN_round]
    refine (q0dj N n r_ i h0 _ K).trans ?_
    simp only [ih]
    rfl
def q0dl (α : Type) (N : Nat) : Env α := (q0de α N).addLoop2 157 2 (loopSum2 ((q0de α N).ann 157 2) 0 q0dg (fun l K => match l with
    | [.i n, .i r_, .i i, .f h0] => q00j none n r_ h0 N i (fun t6_ => K .ret (buildS q0dh [.i t6_, .f h0])) (K (.exit 0) (buildS q0di [.f h0]))
    | _ => none) ((q0de α N).ls 157 2))
theorem q0dm {α : Type} (N : Nat) : EnvOk Try.prog (q0dl α N) := (q0df N).addLoop2 Try.func157 (by kernel_rfl) (loopSum_ok q05l q05m (q0df N) Try.func157 (by kernel_rfl) (d := 1) (ro := 0) fun l K r h => by
  split at h
  · exact (q0dk N _ _ _ K N _).trans h
  · cases h)
def q0dn : SPat := ⟨[.agg [.ints .u8 8], .int .i64, .int .i64], []⟩
def q0do : SPat := ⟨[.int .i64], []⟩
theorem q0dp {α : Type} (N : Nat) (list : NI) (n r_ : Int) (K : AV -> Heap -> Option α) :
    callK Try.prog (q0dl α N) 1 157 0 (buildS q0dn [.f list, .i n, .i r_]).t (buildS q0dn [.f list, .i n, .i r_]).h K = q00k none N list n r_ (fun r__ => retK (buildS q0do [.i r__]) K) := by kernel_rfl
def q0dq (α : Type) (N : Nat) : Env α := (q0dl α N).addFun 157 true 0 q0dn (fun l K => match l with
    | [.f list, .i n, .i r_] => q00k none N list n r_ (fun r__ => retK (buildS q0do [.i r__]) K)
    | _ => none)
theorem q0dr {α : Type} (N : Nat) : EnvOk Try.prog (q0dq α N) := (q0dm N).addFun q05l q05m (d := 1) fun l K r h => by
  split at h
  · exact (q0dp N _ _ _ K).trans h
  · cases h
def q0ds : SPat := ⟨[.agg [.vals [.int .i64], .ints .u8 8, .ints .u8 8], .int .i64], []⟩
def q0dt : SPat := ⟨[.int .i64], []⟩
theorem q0du {α : Type} (N : Nat) (g_0 : Int) (g_1 g_2 : NI) (i : Int) (K : AV -> Heap -> Option α) :
    callK Try.prog (q0dq α N) 1 159 0 (buildS q0ds [.i g_0, .f g_1, .f g_2, .i i]).t (buildS q0ds [.i g_0, .f g_1, .f g_2, .i i]).h K = q00t none N g_0 g_1 g_2 i (fun r__ => retK (buildS q0dt [.i r__]) K) := by kernel_rfl
def q0dv (α : Type) (N : Nat) : Env α := (q0dq α N).addFun 159 true 0 q0ds (fun l K => match l with
    | [.i g_0, .f g_1, .f g_2, .i i] => q00t none N g_0 g_1 g_2 i (fun r__ => retK (buildS q0dt [.i r__]) K)
    | _ => none)
theorem q0dw {α : Type} (N : Nat) : EnvOk Try.prog (q0dv α N) := (q0dr N).addFun q05l q05m (d := 1) fun l K r h => by
  split at h
  · exact (q0du N _ _ _ _ K).trans h
  · cases h
def q0dx : SPat := ⟨[.undef, .ptr ⟨⟨0, 0⟩, 0, 0, 1⟩, .ptr ⟨⟨1, 0⟩, 0, 0, 8⟩, .undef, .ptr ⟨⟨2, 0⟩, 0, 0, 8⟩, .int .i64, .undef, .int .i64, .int .i64] ++ List.replicate 32 .undef, [[.vals [.int .i64], .ints .u8 8, .ints .u8 8], [.ints .i64 8], [.ints .i64 8]]⟩
def q0dy : SPat := ⟨[.undef, .ptr ⟨⟨0, 0⟩, 0, 0, 1⟩, .ptr ⟨⟨1, 0⟩, 0, 0, 8⟩, .undef, .ptr ⟨⟨2, 0⟩, 0, 0, 8⟩, .int .i64, .undef, .int .i64] ++ List.replicate 33 .undef, [[.vals [.int .i64], .ints .u8 8, .ints .u8 8], [.ints .i64 8], [.ints .i64 8]]⟩
theorem q0dz {α : Type} (N : Nat) (count i k h0_0 : Int) (h0_1 h0_2 h1 h2 : NI) (kn : St -> Option α) (K : AExit -> St -> Option α) :
    roundK Try.prog (q0dv α N) 1 0 108 Try.f108 11 3 (buildS q0dx [.i count, .i i, .i k, .i h0_0, .f h0_1, .f h0_2, .f h1, .f h2]) kn K = q00u none N count i h0_0 h0_1 h0_2 h1 k h2 (fun k h2 => kn (buildS q0dx [.i count, .i i, .i k, .i h0_0, .f h0_1, .f h0_2, .f h1, .f h2])) (fun h2_ => K (.exit 4) (buildS q0dy [.i count, .i i, .i h0_0, .f h0_1, .f h0_2, .f h1, .f h2_])) := by kernel_rfl
theorem q0e0 {α : Type} (N : Nat) (count i h0_0 : Int) (h0_1 h0_2 h1 : NI) (K : AExit -> St -> Option α) : ∀ (m : Nat) (k : Int) (h2 : NI),
    loopN (trimSt ((q0dv α N).ann 108 11).head ((q0dv α N).ann 108 11).grow 3) (bodyK Try.prog (q0dv α N) 1 0 108 Try.f108 11) m (buildS q0dx [.i count, .i i, .i k, .i h0_0, .f h0_1, .f h0_2, .f h1, .f h2]) (leaveLoop ((q0dv α N).ann 108 11) 3 K) = q00v none N count i h0_0 h0_1 h0_2 h1 m k h2 (fun h2_ => K (.exit 4) (buildS q0dy [.i count, .i i, .i h0_0, .f h0_1, .f h0_2, .f h1, .f h2_])) := by
  intro m
  induction m with
  | zero => intros; rfl
  | succ m ih =>
    intro k h2
    rw [loopN_round]
    refine (q0dz N count i k h0_0 h0_1 h0_2 h1 h2 _ K).trans ?_
    simp only [ih]
    rfl
def q0e1 (α : Type) (N : Nat) : Env α := (q0dv α N).addLoop2 108 11 (loopSum2 ((q0dv α N).ann 108 11) 0 q0dx (fun l K => match l with
    | [.i count, .i i, .i k, .i h0_0, .f h0_1, .f h0_2, .f h1, .f h2] => q00v none N count i h0_0 h0_1 h0_2 h1 N k h2 (fun h2_ => K (.exit 4) (buildS q0dy [.i count, .i i, .i h0_0, .f h0_1, .f h0_2, .f h1, .f h2_]))
    | _ => none) ((q0dv α N).ls 108 11))
theorem q0e2 {α : Type} (N : Nat) : EnvOk Try.prog (q0e1 α N) := (q0dw N).addLoop2 Try.func108 (by kernel_rfl) (loopSum_ok q05l q05m (q0dw N) Try.func108 (by kernel_rfl) (d := 1) (ro := 0) fun l K r h => by
  split at h
  · exact (q0e0 N _ _ _ _ _ _ K N _ _).trans h
  · cases h)
def q0e3 : SPat := ⟨[.undef, .ptr ⟨⟨0, 0⟩, 0, 0, 1⟩, .ptr ⟨⟨1, 0⟩, 0, 0, 8⟩, .undef, .ptr ⟨⟨2, 0⟩, 0, 0, 8⟩, .int .i64, .undef, .int .i64] ++ List.replicate 33 .undef, [[.vals [.int .i64], .ints .u8 8, .ints .u8 8], [.ints .i64 8], [.ints .i64 8]]⟩
def q0e4 : SPat := ⟨[.undef, .undef, .ptr ⟨⟨1, 0⟩, 0, 0, 8⟩, .undef, .ptr ⟨⟨2, 0⟩, 0, 0, 8⟩, .int .i64] ++ List.replicate 35 .undef, [[.vals [.int .i64], .ints .u8 8, .ints .u8 8], [.ints .i64 8], [.ints .i64 8]]⟩
theorem q0e5 {α : Type} (N : Nat) (count i h0_0 : Int) (h0_1 h0_2 h1 h2 : NI) (kn : St -> Option α) (K : AExit -> St -> Option α) :
    roundK Try.prog (q0e1 α N) 1 0 108 Try.f108 7 3 (buildS q0e3 [.i count, .i i, .i h0_0, .f h0_1, .f h0_2, .f h1, .f h2]) kn K = q00w none N h0_0 h0_1 h0_2 h1 count i h2 (fun count i h2 => kn (buildS q0e3 [.i count, .i i, .i h0_0, .f h0_1, .f h0_2, .f h1, .f h2])) (fun count_ h2_ => K (.exit 2) (buildS q0e4 [.i count_, .i h0_0, .f h0_1, .f h0_2, .f h1, .f h2_])) := by kernel_rfl
theorem q0e6 {α : Type} (N : Nat) (h0_0 : Int) (h0_1 h0_2 h1 : NI) (K : AExit -> St -> Option α) : ∀ (m : Nat) (count i : Int) (h2 : NI),
    loopN (trimSt ((q0e1 α N).ann 108 7).head ((q0e1 α N).ann 108 7).grow 3) (bodyK Try.prog (q0e1 α N) 1 0 108 Try.f108 7) m (buildS q0e3 [.i count, .i i, .i h0_0, .f h0_1, .f h0_2, .f h1, .f h2]) (leaveLoop ((q0e1 α N).ann 108 7) 3 K) = q00x none N h0_0 h0_1 h0_2 h1 m count i h2 (fun count_ h2_ => K (.exit 2) (buildS q0e4 [.i count_, .i h0_0, .f h0_1, .f h0_2, .f h1, .f h2_])) := by
  intro m
  induction m with
  | zero => intros; rfl
  | succ m ih =>
    intro count i h2
    rw [loopN_round]
    refine (q0e5 N count i h0_0 h0_1 h0_2 h1 h2 _ K).trans ?_
    simp only [ih]
    rfl
def q0e7 (α : Type) (N : Nat) : Env α := (q0e1 α N).addLoop2 108 7 (loopSum2 ((q0e1 α N).ann 108 7) 0 q0e3 (fun l K => match l with
    | [.i count, .i i, .i h0_0, .f h0_1, .f h0_2, .f h1, .f h2] => q00x none N h0_0 h0_1 h0_2 h1 N count i h2 (fun count_ h2_ => K (.exit 2) (buildS q0e4 [.i count_, .i h0_0, .f h0_1, .f h0_2, .f h1, .f h2_]))
    | _ => none) ((q0e1 α N).ls 108 7))
theorem q0e8 {α : Type} (N : Nat) : EnvOk Try.prog (q0e7 α N) := (q0e2 N).addLoop2 Try.func108 (by kernel_rfl) (loopSum_ok q05l q05m (q0e2 N) Try.func108 (by kernel_rfl) (d := 1) (ro := 0) fun l K r h => by
  split at h
  · exact (q0e6 N _ _ _ _ K N _ _ _).trans h
  · cases h)
def q0e9 : SPat := ⟨[.agg [.vals [.int .i64], .ints .u8 8, .ints .u8 8]], []⟩
def q0ea : SPat := ⟨[.tuple [.agg [.ints .i64 8], .int .i64]], []⟩
theorem q0eb {α : Type} (N : Nat) (g_0 : Int) (g_1 g_2 : NI) (K : AV -> Heap -> Option α) :
    callK Try.prog (q0e7 α N) 1 108 0 (buildS q0e9 [.i g_0, .f g_1, .f g_2]).t (buildS q0e9 [.i g_0, .f g_1, .f g_2]).h K = q00y none N g_0 g_1 g_2 (fun r_0_ r_1_ => retK (buildS q0ea [.f r_0_, .i r_1_]) K) := by kernel_rfl
def q0ec (α : Type) (N : Nat) : Env α := (q0e7 α N).addFun 108 true 0 q0e9 (fun l K => match l with
    | [.i g_0, .f g_1, .f g_2] => q00y none N g_0 g_1 g_2 (fun r_0_ r_1_ => retK (buildS q0ea [.f r_0_, .i r_1_]) K)
    | _ => none)
theorem q0ed {α : Type} (N : Nat) : EnvOk Try.prog (q0ec α N) := (q0e8 N).addFun q05l q05m (d := 1) fun l K r h => by
  split at h
  · exact (q0eb N _ _ _ K).trans h
  · cases h
def q0ee (α : Type) (N : Nat) : Env α := (q0ec α N).addAnn 155 3 { head := [1, 3, 4], grow := [3], out := [3], ret := [2] }
theorem q0ef {α : Type} (N : Nat) : EnvOk Try.prog (q0ee α N) := (q0ed N).addAnn
def q0eg (α : Type) (N : Nat) : Env α := (q0ee α N).addAnn 155 6 { head := [1, 3, 4, 5], grow := [3], out := [1, 3, 4], ret := [2] }
theorem q0eh {α : Type} (N : Nat) : EnvOk Try.prog (q0eg α N) := (q0ef N).addAnn
def q0ei : SPat := ⟨[.agg [.vals [.int .i64], .ints .u8 8, .ints .u8 8], .int .i64, .int .i64], []⟩
def q0ej : SPat := ⟨[.int .i64], []⟩
theorem q0ek {α : Type} (N : Nat) (g_0 : Int) (g_1 g_2 : NI) (i r_ : Int) (K : AV -> Heap -> Option α) :
    callK Try.prog (q0eg α N) 1 205 0 (buildS q0ei [.i g_0, .f g_1, .f g_2, .i i, .i r_]).t (buildS q0ei [.i g_0, .f g_1, .f g_2, .i i, .i r_]).h K = q00z none N g_0 g_1 g_2 i r_ (fun r__ => retK (buildS q0ej [.i r__]) K) := by kernel_rfl
def q0el (α : Type) (N : Nat) : Env α := (q0eg α N).addFun 205 true 0 q0ei (fun l K => match l with
    | [.i g_0, .f g_1, .f g_2, .i i, .i r_] => q00z none N g_0 g_1 g_2 i r_ (fun r__ => retK (buildS q0ej [.i r__]) K)
    | _ => none)
theorem q0em {α : Type} (N : Nat) : EnvOk Try.prog (q0el α N) := (q0eh N).addFun q05l q05m (d := 1) fun l K r h => by
  split at h
  · exact (q0ek N _ _ _ _ _ K).trans h
  · cases h
def q0en : SPat := ⟨[.undef, .ptr ⟨⟨0, 0⟩, 0, 0, 1⟩, .undef, .sliceV 1 0 0 3 false, .int .i64, .int .i64] ++ List.replicate 28 .undef, [[.vals [.int .i64], .ints .u8 8, .ints .u8 8], [.vec .i64]]⟩
def q0eo : SPat := ⟨[.undef, .ptr ⟨⟨0, 0⟩, 0, 0, 1⟩, .undef, .sliceV 1 0 0 3 false, .int .i64] ++ List.replicate 29 .undef, [[.vals [.int .i64], .ints .u8 8, .ints .u8 8], [.vec .i64]]⟩
theorem q0ep {α : Type} (N out_n out_l out_c : Nat) (i r_ h0_0 : Int) (h0_1 h0_2 : NI) (h1 : List Int) (kn : St -> Option α) (K : AExit -> St -> Option α) :
    roundK Try.prog (q0el α N) 1 0 155 Try.f155 6 2 (buildS q0en [.n out_n, .n out_l, .n out_c, .i i, .i r_, .i h0_0, .f h0_1, .f h0_2, .l h1]) kn K = q010 none N i h0_0 h0_1 h0_2 out_n out_l out_c r_ h1 (fun out_n out_l out_c r_ h1 => kn (buildS q0en [.n out_n, .n out_l, .n out_c, .i i, .i r_, .i h0_0, .f h0_1, .f h0_2, .l h1])) (fun out_n_ out_l_ out_c_ h1_ => K (.exit 2) (buildS q0eo [.n out_n_, .n out_l_, .n out_c_, .i i, .i h0_0, .f h0_1, .f h0_2, .l h1_])) := by kernel_rfl
theorem q0eq {α : Type} (N : Nat) (i h0_0 : Int) (h0_1 h0_2 : NI) (K : AExit -> St -> Option α) : ∀ (m out_n out_l out_c : Nat) (r_ : Int) (h1 : List Int),
    loopN (trimSt ((q0el α N).ann 155 6).head ((q0el α N).ann 155 6).grow 2) (bodyK Try.prog (q0el α N) 1 0 155 Try.f155 6) m (buildS q0en [.n out_n, .n out_l, .n out_c, .i i, .i r_, .i h0_0, .f h0_1, .f h0_2, .l h1]) (leaveLoop ((q0el α N).ann 155 6) 2 K) = q011 none N i h0_0 h0_1 h0_2 m out_n out_l out_c r_ h1 (fun out_n_ out_l_ out_c_ h1_ => K (.exit 2) (buildS q0eo [.n out_n_, .n out_l_, .n out_c_, .i i, .i h0_0, .f h0_1, .f h0_2, .l h1_])) := by
  intro m
  induction m with
  | zero => intros; rfl
  | succ m ih =>
    intro out_n out_l out_c r_ h1
    rw [loopN_round]
    refine (q0ep N out_n out_l out_c i r_ h0_0 h0_1 h0_2 h1 _ K).trans ?_
    simp only [ih]
    rfl
def q0er (α : Type) (N : Nat) : Env α := (q0el α N).addLoop2 155 6 (loopSum2 ((q0el α N).ann 155 6) 0 q0en (fun l K => match l with
    | [.n out_n, .n out_l, .n out_c, .i i, .i r_, .i h0_0, .f h0_1, .f h0_2, .l h1] => q011 none N i h0_0 h0_1 h0_2 N out_n out_l out_c r_ h1 (fun out_n_ out_l_ out_c_ h1_ => K (.exit 2) (buildS q0eo [.n out_n_, .n out_l_, .n out_c_, .i i, .i h0_0, .f h0_1, .f h0_2, .l h1_]))
    | _ => none) ((q0el α N).ls 155 6))
theorem q0es {α : Type} (N : Nat) : EnvOk Try.prog (q0er α N) := (q0em N).addLoop2 Try.func155 (by kernel_rfl) (loopSum_ok q05l q05m (q0em N) Try.func155 (by kernel_rfl) (d := 1) (ro := 0) fun l K r h => by
  split at h
  · exact (q0eq N _ _ _ _ K N _ _ _ _ _).trans h
  · cases h)
def q0et : SPat := ⟨[.undef, .ptr ⟨⟨0, 0⟩, 0, 0, 1⟩, .undef, .sliceV 1 0 0 3 false, .int .i64] ++ List.replicate 29 .undef, [[.vals [.int .i64], .ints .u8 8, .ints .u8 8], [.vec .i64]]⟩
def q0eu : SPat := ⟨[.undef, .undef, .undef, .sliceV 1 0 0 3 false] ++ List.replicate 30 .undef, [[.vals [.int .i64], .ints .u8 8, .ints .u8 8], [.vec .i64]]⟩
theorem q0ev {α : Type} (N out_n out_l out_c : Nat) (i h0_0 : Int) (h0_1 h0_2 : NI) (h1 : List Int) (kn : St -> Option α) (K : AExit -> St -> Option α) :
    roundK Try.prog (q0er α N) 1 0 155 Try.f155 3 2 (buildS q0et [.n out_n, .n out_l, .n out_c, .i i, .i h0_0, .f h0_1, .f h0_2, .l h1]) kn K = q012 none N h0_0 h0_1 h0_2 out_n out_l out_c i h1 (fun out_n out_l out_c i h1 => kn (buildS q0et [.n out_n, .n out_l, .n out_c, .i i, .i h0_0, .f h0_1, .f h0_2, .l h1])) (fun out_n_ out_l_ out_c_ h1_ => K (.exit 0) (buildS q0eu [.n out_n_, .n out_l_, .n out_c_, .i h0_0, .f h0_1, .f h0_2, .l h1_])) := by kernel_rfl
theorem q0ew {α : Type} (N : Nat) (h0_0 : Int) (h0_1 h0_2 : NI) (K : AExit -> St -> Option α) : ∀ (m out_n out_l out_c : Nat) (i : Int) (h1 : List Int),
    loopN (trimSt ((q0er α N).ann 155 3).head ((q0er α N).ann 155 3).grow 2) (bodyK Try.prog (q0er α N) 1 0 155 Try.f155 3) m (buildS q0et [.n out_n, .n out_l, .n out_c, .i i, .i h0_0, .f h0_1, .f h0_2, .l h1]) (leaveLoop ((q0er α N).ann 155 3) 2 K) = q013 none N h0_0 h0_1 h0_2 m out_n out_l out_c i h1 (fun out_n_ out_l_ out_c_ h1_ => K (.exit 0) (buildS q0eu [.n out_n_, .n out_l_, .n out_c_, .i h0_0, .f h0_1, .f h0_2, .l h1_])) := by
  intro m
  induction m with
  | zero => intros; rfl
  | succ m ih =>
    intro out_n out_l out_c i h1
    rw [loopN_round]
    refine (q0ev N out_n out_l out_c i h0_0 h0_1 h0_2 h1 _ K).trans ?_
    simp only [ih]
    rfl
def q0ex (α : Type) (N : Nat) : Env α := (q0er α N).addLoop2 155 3 (loopSum2 ((q0er α N).ann 155 3) 0 q0et (fun l K => match l with
    | [.n out_n, .n out_l, .n out_c, .i i, .i h0_0, .f h0_1, .f h0_2, .l h1] => q013 none N h0_0 h0_1 h0_2 N out_n out_l out_c i h1 (fun out_n_ out_l_ out_c_ h1_ => K (.exit 0) (buildS q0eu [.n out_n_, .n out_l_, .n out_c_, .i h0_0, .f h0_1, .f h0_2, .l h1_]))
    | _ => none) ((q0er α N).ls 155 3))
theorem q0ey {α : Type} (N : Nat) : EnvOk Try.prog (q0ex α N) := (q0es N).addLoop2 Try.func155 (by kernel_rfl) (loopSum_ok q05l q05m (q0es N) Try.func155 (by kernel_rfl) (d := 1) (ro := 0) fun l K r h => by
  split at h
  · exact (q0ew N _ _ _ K N _ _ _ _ _).trans h
  · cases h)
def q0ez : SPat := ⟨[.agg [.vals [.int .i64], .ints .u8 8, .ints .u8 8]], []⟩
def q0f0 : SPat := ⟨[.sliceV 0 0 0 3 false], [[.vec .i64]]⟩
theorem q0f1 {α : Type} (N : Nat) (g_0 : Int) (g_1 g_2 : NI) (K : AV -> Heap -> Option α) :
    callK Try.prog (q0ex α N) 1 155 0 (buildS q0ez [.i g_0, .f g_1, .f g_2]).t (buildS q0ez [.i g_0, .f g_1, .f g_2]).h K = q014 none N g_0 g_1 g_2 (fun r_n_ r_l_ r_c_ h0_ => retK (buildS q0f0 [.n r_n_, .n r_l_, .n r_c_, .l h0_]) K) := by kernel_rfl
def q0f2 (α : Type) (N : Nat) : Env α := (q0ex α N).addFun 155 true 0 q0ez (fun l K => match l with
    | [.i g_0, .f g_1, .f g_2] => q014 none N g_0 g_1 g_2 (fun r_n_ r_l_ r_c_ h0_ => retK (buildS q0f0 [.n r_n_, .n r_l_, .n r_c_, .l h0_]) K)
    | _ => none)
theorem q0f3 {α : Type} (N : Nat) : EnvOk Try.prog (q0f2 α N) := (q0ey N).addFun q05l q05m (d := 1) fun l K r h => by
  split at h
  · exact (q0f1 N _ _ _ K).trans h
  · cases h
def q0f4 (α : Type) (N : Nat) : Env α := (q0f2 α N).addAnn 66 6 { head := [1, 4, 5, 6, 7, 8], grow := [7], out := [7], ret := [2, 3] }
theorem q0f5 {α : Type} (N : Nat) : EnvOk Try.prog (q0f4 α N) := (q0f3 N).addAnn
def q0f6 (α : Type) (N : Nat) : Env α := (q0f4 α N).addAnn 66 9 { head := [1, 4, 5, 6, 7, 8, 9], grow := [], out := [1, 4, 5, 6, 7, 8, 9], ret := [2, 3] }
theorem q0f7 {α : Type} (N : Nat) : EnvOk Try.prog (q0f6 α N) := (q0f5 N).addAnn
def q0f8 (α : Type) (N : Nat) : Env α := (q0f6 α N).addAnn 66 12 { head := [1, 4, 5, 6, 7, 8, 9, 10, 11], grow := [10], out := [1, 4, 5, 6, 7, 8, 10], ret := [2, 3] }
theorem q0f9 {α : Type} (N : Nat) : EnvOk Try.prog (q0f8 α N) := (q0f7 N).addAnn
def q0fa (α : Type) (N : Nat) : Env α := (q0f8 α N).addAnn 160 5 { head := [0, 1, 2, 4, 5, 13, 14], grow := [0], out := [0], ret := [12] }
theorem q0fb {α : Type} (N : Nat) : EnvOk Try.prog (q0fa α N) := (q0f9 N).addAnn
def q0fc (α : Type) (N : Nat) : Env α := (q0fa α N).addAnn 208 2 { head := [0, 1, 2, 7], grow := [], out := [], ret := [6] }
theorem q0fd {α : Type} (N : Nat) : EnvOk Try.prog (q0fc α N) := (q0fb N).addAnn
def q0fe : SPat := ⟨[.sliceV 0 0 0 3 false, .int .i64, .int .i64, .undef, .undef, .undef, .undef, .int .i64] ++ List.replicate 24 .undef, [[.vec .i64]]⟩
def q0ff : SPat := ⟨[.undef, .undef, .undef, .undef, .undef, .undef, .int .i64] ++ List.replicate 25 .undef, [[.vec .i64]]⟩
def q0fg : SPat := ⟨[] ++ List.replicate 32 .undef, [[.vec .i64]]⟩
theorem q0fh {α : Type} (N list_n list_l list_c : Nat) (i r_ k : Int) (h0 : List Int) (kn : St -> Option α) (K : AExit -> St -> Option α) :
    roundK Try.prog (q0fc α N) 1 1 208 Try.f208 2 1 (buildS q0fe [.n list_n, .n list_l, .n list_c, .i i, .i r_, .i k, .l h0]) kn K = q049 none list_n list_l list_c i r_ h0 k (fun k => kn (buildS q0fe [.n list_n, .n list_l, .n list_c, .i i, .i r_, .i k, .l h0])) (fun t6_ => K .ret (buildS q0ff [.i t6_, .l h0])) (K (.exit 0) (buildS q0fg [.l h0])) := by kernel_rfl
theorem q0fi {α : Type} (N list_n list_l list_c : Nat) (i r_ : Int) (h0 : List Int) (K : AExit -> St -> Option α) : ∀ (m : Nat) (k : Int),
    loopN (trimSt ((q0fc α N).ann 208 2).head ((q0fc α N).ann 208 2).grow 1) (bodyK Try.prog (q0fc α N) 1 1 208 Try.f208 2) m (buildS q0fe [.n list_n, .n list_l, .n list_c, .i i, .i r_, .i k, .l h0]) (leaveLoop ((q0fc α N).ann 208 2) 1 K) = q04a none list_n list_l list_c i r_ h0 m k (fun t6_ => K .ret (buildS q0ff [.i t6_, .l h0])) (K (.exit 0) (buildS q0fg [.l h0])) := by
  intro m
  induction m with
  | zero => intros; rfl
  | succ m ih =>
    intro k
    rw [loopN_round]
    refine (q0fh N list_n list_l list_c i r_ k h0 _ K).trans ?_
    simp only [ih]
    rfl
def q0fj (α : Type) (N : Nat) : Env α := (q0fc α N).addLoop2 208 2 (loopSum2 ((q0fc α N).ann 208 2) 1 q0fe (fun l K => match l with
    | [.n list_n, .n list_l, .n list_c, .i i, .i r_, .i k, .l h0] => q04a none list_n list_l list_c i r_ h0 N k (fun t6_ => K .ret (buildS q0ff [.i t6_, .l h0])) (K (.exit 0) (buildS q0fg [.l h0]))
    | _ => none) ((q0fc α N).ls 208 2))
theorem q0fk {α : Type} (N : Nat) : EnvOk Try.prog (q0fj α N) := (q0fd N).addLoop2 Try.func208 (by kernel_rfl) (loopSum_ok q05l q05m (q0fd N) Try.func208 (by kernel_rfl) (d := 1) (ro := 1) fun l K r h => by
  split at h
  · exact (q0fi N _ _ _ _ _ _ K N _).trans h
  · cases h)
def q0fl : SPat := ⟨[.sliceV 0 0 0 3 false, .int .i64, .int .i64], [[.vec .i64]]⟩
def q0fm : SPat := ⟨[.int .i64], [[.vec .i64]]⟩
theorem q0fn {α : Type} (N list_n list_l list_c : Nat) (i r_ : Int) (h0 : List Int) (K : AV -> Heap -> Option α) :
    callK Try.prog (q0fj α N) 1 208 1 (buildS q0fl [.n list_n, .n list_l, .n list_c, .i i, .i r_, .l h0]).t (buildS q0fl [.n list_n, .n list_l, .n list_c, .i i, .i r_, .l h0]).h K = q04b none N list_n list_l list_c i r_ h0 (fun r__ => retK (buildS q0fm [.i r__, .l h0]) K) := by kernel_rfl
def q0fo (α : Type) (N : Nat) : Env α := (q0fj α N).addFun 208 true 1 q0fl (fun l K => match l with
    | [.n list_n, .n list_l, .n list_c, .i i, .i r_, .l h0] => q04b none N list_n list_l list_c i r_ h0 (fun r__ => retK (buildS q0fm [.i r__, .l h0]) K)
    | _ => none)
theorem q0fp {α : Type} (N : Nat) : EnvOk Try.prog (q0fo α N) := (q0fk N).addFun q05l q05m (d := 1) fun l K r h => by
  split at h
  · exact (q0fn N _ _ _ _ _ _ K).trans h
  · cases h
def q0fq : SPat := ⟨[.agg [.vals [.int .i64], .ints .u8 8, .ints .u8 8], .func 154 []], []⟩
def q0fr : SPat := ⟨[.tuple [.nils, .int .i64]], []⟩
def q0fs : SPat := ⟨[.tuple [.sliceV 0 0 0 3 false, .int .i64]], [[.vec .i64]]⟩
theorem q0ft {α : Type} (N : Nat) (g_0 : Int) (g_1 g_2 : NI) (K : AV -> Heap -> Option α) :
    callK Try.prog (q0fo α N) 1 153 0 (buildS q0fq [.i g_0, .f g_1, .f g_2]).t (buildS q0fq [.i g_0, .f g_1, .f g_2]).h K = q04c none N g_0 g_1 g_2 (fun r_1_ => retK (buildS q0fr [.i r_1_]) K) (fun r_0_n_ r_0_l_ r_0_c_ r_1_ h0_ => retK (buildS q0fs [.n r_0_n_, .n r_0_l_, .n r_0_c_, .i r_1_, .l h0_]) K) := by kernel_rfl
def q0fu (α : Type) (N : Nat) : Env α := (q0fo α N).addFun 153 true 0 q0fq (fun l K => match l with
    | [.i g_0, .f g_1, .f g_2] => q04c none N g_0 g_1 g_2 (fun r_1_ => retK (buildS q0fr [.i r_1_]) K) (fun r_0_n_ r_0_l_ r_0_c_ r_1_ h0_ => retK (buildS q0fs [.n r_0_n_, .n r_0_l_, .n r_0_c_, .i r_1_, .l h0_]) K)
    | _ => none)
theorem q0fv {α : Type} (N : Nat) : EnvOk Try.prog (q0fu α N) := (q0fp N).addFun q05l q05m (d := 1) fun l K r h => by
  split at h
  · exact (q0ft N _ _ _ K).trans h
  · cases h
def q0fw : SPat := ⟨[.agg [.vals [.int .i64], .ints .u8 8, .ints .u8 8]], []⟩
def q0fx : SPat := ⟨[.tuple [.nils, .int .i64]], []⟩
def q0fy : SPat := ⟨[.tuple [.sliceV 0 0 0 3 false, .int .i64]], [[.vec .i64]]⟩
theorem q0fz {α : Type} (N : Nat) (g_0 : Int) (g_1 g_2 : NI) (K : AV -> Heap -> Option α) :
    callK Try.prog (q0fu α N) 1 60 0 (buildS q0fw [.i g_0, .f g_1, .f g_2]).t (buildS q0fw [.i g_0, .f g_1, .f g_2]).h K = q04d none N g_0 g_1 g_2 (fun r_1_ => retK (buildS q0fx [.i r_1_]) K) (fun r_0_n_ r_0_l_ r_0_c_ r_1_ h0_ => retK (buildS q0fy [.n r_0_n_, .n r_0_l_, .n r_0_c_, .i r_1_, .l h0_]) K) := by kernel_rfl
def q0g0 (α : Type) (N : Nat) : Env α := (q0fu α N).addFun 60 true 0 q0fw (fun l K => match l with
    | [.i g_0, .f g_1, .f g_2] => q04d none N g_0 g_1 g_2 (fun r_1_ => retK (buildS q0fx [.i r_1_]) K) (fun r_0_n_ r_0_l_ r_0_c_ r_1_ h0_ => retK (buildS q0fy [.n r_0_n_, .n r_0_l_, .n r_0_c_, .i r_1_, .l h0_]) K)
    | _ => none)
theorem q0g1 {α : Type} (N : Nat) : EnvOk Try.prog (q0g0 α N) := (q0fv N).addFun q05l q05m (d := 1) fun l K r h => by
  split at h
  · exact (q0fz N _ _ _ K).trans h
  · cases h
def q0g2 : SPat := ⟨[.agg [.vals [.int .i64], .ints .u8 8, .ints .u8 8]], []⟩
def q0g3 : SPat := ⟨[.tuple [.nils, .int .i64]], []⟩
def q0g4 : SPat := ⟨[.tuple [.sliceV 0 0 0 3 false, .int .i64]], [[.vec .i64]]⟩
theorem q0g5 {α : Type} (N : Nat) (g_0 : Int) (g_1 g_2 : NI) (K : AV -> Heap -> Option α) :
    callK Try.prog (q0g0 α N) 1 61 0 (buildS q0g2 [.i g_0, .f g_1, .f g_2]).t (buildS q0g2 [.i g_0, .f g_1, .f g_2]).h K = q04e none N g_0 g_1 g_2 (fun r_1_ => retK (buildS q0g3 [.i r_1_]) K) (fun r_0_n_ r_0_l_ r_0_c_ r_1_ h0_ => retK (buildS q0g4 [.n r_0_n_, .n r_0_l_, .n r_0_c_, .i r_1_, .l h0_]) K) := by kernel_rfl
def q0g6 (α : Type) (N : Nat) : Env α := (q0g0 α N).addFun 61 true 0 q0g2 (fun l K => match l with
    | [.i g_0, .f g_1, .f g_2] => q04e none N g_0 g_1 g_2 (fun r_1_ => retK (buildS q0g3 [.i r_1_]) K) (fun r_0_n_ r_0_l_ r_0_c_ r_1_ h0_ => retK (buildS q0g4 [.n r_0_n_, .n r_0_l_, .n r_0_c_, .i r_1_, .l h0_]) K)
    | _ => none)
theorem q0g7 {α : Type} (N : Nat) : EnvOk Try.prog (q0g6 α N) := (q0g1 N).addFun q05l q05m (d := 1) fun l K r h => by
  split at h
  · exact (q0g5 N _ _ _ K).trans h
  · cases h
def q0g8 (α : Type) (N : Nat) : Env α := (q0g6 α N).addAnn 147 3 { head := [3, 7, 8, 9], grow := [], out := [3], ret := [2] }
theorem q0g9 {α : Type} (N : Nat) : EnvOk Try.prog (q0g8 α N) := (q0g7 N).addAnn
end Go.AM
