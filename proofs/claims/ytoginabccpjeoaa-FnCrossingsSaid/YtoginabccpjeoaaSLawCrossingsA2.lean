/- A part of a proof about the given program: an abstract machine, what the given functions come to, and plain laws. -/
import Derived.Test.YtoginabccpjeoaaSLawCrossingsA
set_option linter.unusedVariables false
set_option linter.unusedSimpArgs false
set_option maxRecDepth 100000
set_option maxHeartbeats 4000000
namespace Go.AM
open Go.Proofs
def q0ga : SPat := ⟨[.undef, .undef, .undef, .int .i64, .undef, .undef, .undef, .sliceV 1 0 0 3 false, .int .i64, .int .i64] ++ List.replicate 9 .undef, [[.vals [.int .i64], .ints .u8 8, .ints .u8 8], [.vec .i64]]⟩
def q0gb : SPat := ⟨[.undef, .undef, .undef, .int .i64] ++ List.replicate 15 .undef, [[.vals [.int .i64], .ints .u8 8, .ints .u8 8], [.vec .i64]]⟩
theorem q0gc {α : Type} (N : Nat) (sum : Int) (t7_n t7_l t7_c : Nat) (t8 t9 h0_0 : Int) (h0_1 h0_2 : NI) (h1 : List Int) (kn : St -> Option α) (K : AExit -> St -> Option α) :
    roundK Try.prog (q0g8 α N) 1 0 147 Try.f147 3 2 (buildS q0ga [.i sum, .n t7_n, .n t7_l, .n t7_c, .i t8, .i t9, .i h0_0, .f h0_1, .f h0_2, .l h1]) kn K = q01e none t7_n t7_l t7_c t8 h0_0 h0_1 h0_2 h1 sum t9 (fun sum t9 => kn (buildS q0ga [.i sum, .n t7_n, .n t7_l, .n t7_c, .i t8, .i t9, .i h0_0, .f h0_1, .f h0_2, .l h1])) (fun sum_ => K (.exit 0) (buildS q0gb [.i sum_, .i h0_0, .f h0_1, .f h0_2, .l h1])) := by kernel_rfl
theorem q0gd {α : Type} (N t7_n t7_l t7_c : Nat) (t8 h0_0 : Int) (h0_1 h0_2 : NI) (h1 : List Int) (K : AExit -> St -> Option α) : ∀ (m : Nat) (sum t9 : Int),
    loopN (trimSt ((q0g8 α N).ann 147 3).head ((q0g8 α N).ann 147 3).grow 2) (bodyK Try.prog (q0g8 α N) 1 0 147 Try.f147 3) m (buildS q0ga [.i sum, .n t7_n, .n t7_l, .n t7_c, .i t8, .i t9, .i h0_0, .f h0_1, .f h0_2, .l h1]) (leaveLoop ((q0g8 α N).ann 147 3) 2 K) = q01f none t7_n t7_l t7_c t8 h0_0 h0_1 h0_2 h1 m sum t9 (fun sum_ => K (.exit 0) (buildS q0gb [.i sum_, .i h0_0, .f h0_1, .f h0_2, .l h1])) := by
  intro m
  induction m with
  | zero => intros; rfl
  | succ m ih =>
    intro sum t9
    rw [loopN_round]
    refine (q0gc N sum t7_n t7_l t7_c t8 t9 h0_0 h0_1 h0_2 h1 _ K).trans ?_
    simp only [ih]
    rfl
def q0ge (α : Type) (N : Nat) : Env α := (q0g8 α N).addLoop2 147 3 (loopSum2 ((q0g8 α N).ann 147 3) 0 q0ga (fun l K => match l with
    | [.i sum, .n t7_n, .n t7_l, .n t7_c, .i t8, .i t9, .i h0_0, .f h0_1, .f h0_2, .l h1] => q01f none t7_n t7_l t7_c t8 h0_0 h0_1 h0_2 h1 N sum t9 (fun sum_ => K (.exit 0) (buildS q0gb [.i sum_, .i h0_0, .f h0_1, .f h0_2, .l h1]))
    | _ => none) ((q0g8 α N).ls 147 3))
theorem q0gf {α : Type} (N : Nat) : EnvOk Try.prog (q0ge α N) := (q0g9 N).addLoop2 Try.func147 (by kernel_rfl) (loopSum_ok q05l q05m (q0g9 N) Try.func147 (by kernel_rfl) (d := 1) (ro := 0) fun l K r h => by
  split at h
  · exact (q0gd N _ _ _ _ _ _ _ _ K N _ _).trans h
  · cases h)
def q0gg : SPat := ⟨[.agg [.vals [.int .i64], .ints .u8 8, .ints .u8 8]], []⟩
def q0gh : SPat := ⟨[.int .i64], []⟩
theorem q0gi {α : Type} (N : Nat) (g_0 : Int) (g_1 g_2 : NI) (K : AV -> Heap -> Option α) :
    callK Try.prog (q0ge α N) 1 147 0 (buildS q0gg [.i g_0, .f g_1, .f g_2]).t (buildS q0gg [.i g_0, .f g_1, .f g_2]).h K = q01g none N g_0 g_1 g_2 (fun r__ => retK (buildS q0gh [.i r__]) K) := by kernel_rfl
def q0gj (α : Type) (N : Nat) : Env α := (q0ge α N).addFun 147 true 0 q0gg (fun l K => match l with
    | [.i g_0, .f g_1, .f g_2] => q01g none N g_0 g_1 g_2 (fun r__ => retK (buildS q0gh [.i r__]) K)
    | _ => none)
theorem q0gk {α : Type} (N : Nat) : EnvOk Try.prog (q0gj α N) := (q0gf N).addFun q05l q05m (d := 1) fun l K r h => by
  split at h
  · exact (q0gi N _ _ _ K).trans h
  · cases h
def q0gl : SPat := ⟨[.agg [.vals [.int .i64], .ints .u8 8, .ints .u8 8], .func 147 []], []⟩
def q0gm : SPat := ⟨[.tuple [.int .i64, .int .i64]], []⟩
theorem q0gn {α : Type} (N : Nat) (g_0 : Int) (g_1 g_2 : NI) (K : AV -> Heap -> Option α) :
    callK Try.prog (q0gj α N) 1 136 0 (buildS q0gl [.i g_0, .f g_1, .f g_2]).t (buildS q0gl [.i g_0, .f g_1, .f g_2]).h K = q035 none N g_0 g_1 g_2 (fun r_0_ r_1_ => retK (buildS q0gm [.i r_0_, .i r_1_]) K) := by kernel_rfl
def q0go (α : Type) (N : Nat) : Env α := (q0gj α N).addFun 136 true 0 q0gl (fun l K => match l with
    | [.i g_0, .f g_1, .f g_2] => q035 none N g_0 g_1 g_2 (fun r_0_ r_1_ => retK (buildS q0gm [.i r_0_, .i r_1_]) K)
    | _ => none)
theorem q0gp {α : Type} (N : Nat) : EnvOk Try.prog (q0go α N) := (q0gk N).addFun q05l q05m (d := 1) fun l K r h => by
  split at h
  · exact (q0gn N _ _ _ K).trans h
  · cases h
def q0gq : SPat := ⟨[.agg [.vals [.int .i64], .ints .u8 8, .ints .u8 8]], []⟩
def q0gr : SPat := ⟨[.tuple [.int .i64, .int .i64]], []⟩
theorem q0gs {α : Type} (N : Nat) (g_0 : Int) (g_1 g_2 : NI) (K : AV -> Heap -> Option α) :
    callK Try.prog (q0go α N) 1 56 0 (buildS q0gq [.i g_0, .f g_1, .f g_2]).t (buildS q0gq [.i g_0, .f g_1, .f g_2]).h K = q036 none N g_0 g_1 g_2 (fun r_0_ r_1_ => retK (buildS q0gr [.i r_0_, .i r_1_]) K) := by kernel_rfl
def q0gt (α : Type) (N : Nat) : Env α := (q0go α N).addFun 56 true 0 q0gq (fun l K => match l with
    | [.i g_0, .f g_1, .f g_2] => q036 none N g_0 g_1 g_2 (fun r_0_ r_1_ => retK (buildS q0gr [.i r_0_, .i r_1_]) K)
    | _ => none)
theorem q0gu {α : Type} (N : Nat) : EnvOk Try.prog (q0gt α N) := (q0gp N).addFun q05l q05m (d := 1) fun l K r h => by
  split at h
  · exact (q0gs N _ _ _ K).trans h
  · cases h
def q0gv (α : Type) (N : Nat) : Env α := (q0gt α N).addAnn 156 3 { head := [3, 4, 5], grow := [], out := [4], ret := [2] }
theorem q0gw {α : Type} (N : Nat) : EnvOk Try.prog (q0gv α N) := (q0gu N).addAnn
def q0gx : SPat := ⟨[.undef, .undef, .undef, .sliceV 1 0 0 3 false, .int .i64, .int .i64] ++ List.replicate 16 .undef, [[.vals [.int .i64], .ints .u8 8, .ints .u8 8], [.vec .i64]]⟩
def q0gy : SPat := ⟨[.undef, .undef, .undef, .undef, .int .i64] ++ List.replicate 17 .undef, [[.vals [.int .i64], .ints .u8 8, .ints .u8 8], [.vec .i64]]⟩
theorem q0gz {α : Type} (N list_n list_l list_c : Nat) (out i h0_0 : Int) (h0_1 h0_2 : NI) (h1 : List Int) (kn : St -> Option α) (K : AExit -> St -> Option α) :
    roundK Try.prog (q0gv α N) 1 0 156 Try.f156 3 2 (buildS q0gx [.n list_n, .n list_l, .n list_c, .i out, .i i, .i h0_0, .f h0_1, .f h0_2, .l h1]) kn K = q015 none list_n list_l list_c h0_0 h0_1 h0_2 h1 out i (fun out i => kn (buildS q0gx [.n list_n, .n list_l, .n list_c, .i out, .i i, .i h0_0, .f h0_1, .f h0_2, .l h1])) (fun out_ => K (.exit 0) (buildS q0gy [.i out_, .i h0_0, .f h0_1, .f h0_2, .l h1])) := by kernel_rfl
theorem q0h0 {α : Type} (N list_n list_l list_c : Nat) (h0_0 : Int) (h0_1 h0_2 : NI) (h1 : List Int) (K : AExit -> St -> Option α) : ∀ (m : Nat) (out i : Int),
    loopN (trimSt ((q0gv α N).ann 156 3).head ((q0gv α N).ann 156 3).grow 2) (bodyK Try.prog (q0gv α N) 1 0 156 Try.f156 3) m (buildS q0gx [.n list_n, .n list_l, .n list_c, .i out, .i i, .i h0_0, .f h0_1, .f h0_2, .l h1]) (leaveLoop ((q0gv α N).ann 156 3) 2 K) = q016 none list_n list_l list_c h0_0 h0_1 h0_2 h1 m out i (fun out_ => K (.exit 0) (buildS q0gy [.i out_, .i h0_0, .f h0_1, .f h0_2, .l h1])) := by
  intro m
  induction m with
  | zero => intros; rfl
  | succ m ih =>
    intro out i
    rw [loopN_round]
    refine (q0gz N list_n list_l list_c out i h0_0 h0_1 h0_2 h1 _ K).trans ?_
    simp only [ih]
    rfl
def q0h1 (α : Type) (N : Nat) : Env α := (q0gv α N).addLoop2 156 3 (loopSum2 ((q0gv α N).ann 156 3) 0 q0gx (fun l K => match l with
    | [.n list_n, .n list_l, .n list_c, .i out, .i i, .i h0_0, .f h0_1, .f h0_2, .l h1] => q016 none list_n list_l list_c h0_0 h0_1 h0_2 h1 N out i (fun out_ => K (.exit 0) (buildS q0gy [.i out_, .i h0_0, .f h0_1, .f h0_2, .l h1]))
    | _ => none) ((q0gv α N).ls 156 3))
theorem q0h2 {α : Type} (N : Nat) : EnvOk Try.prog (q0h1 α N) := (q0gw N).addLoop2 Try.func156 (by kernel_rfl) (loopSum_ok q05l q05m (q0gw N) Try.func156 (by kernel_rfl) (d := 1) (ro := 0) fun l K r h => by
  split at h
  · exact (q0h0 N _ _ _ _ _ _ _ K N _ _).trans h
  · cases h)
def q0h3 : SPat := ⟨[.agg [.vals [.int .i64], .ints .u8 8, .ints .u8 8]], []⟩
def q0h4 : SPat := ⟨[.int .i64], []⟩
theorem q0h5 {α : Type} (N : Nat) (g_0 : Int) (g_1 g_2 : NI) (K : AV -> Heap -> Option α) :
    callK Try.prog (q0h1 α N) 1 156 0 (buildS q0h3 [.i g_0, .f g_1, .f g_2]).t (buildS q0h3 [.i g_0, .f g_1, .f g_2]).h K = q017 none N g_0 g_1 g_2 (fun r__ => retK (buildS q0h4 [.i r__]) K) := by kernel_rfl
def q0h6 (α : Type) (N : Nat) : Env α := (q0h1 α N).addFun 156 true 0 q0h3 (fun l K => match l with
    | [.i g_0, .f g_1, .f g_2] => q017 none N g_0 g_1 g_2 (fun r__ => retK (buildS q0h4 [.i r__]) K)
    | _ => none)
theorem q0h7 {α : Type} (N : Nat) : EnvOk Try.prog (q0h6 α N) := (q0h2 N).addFun q05l q05m (d := 1) fun l K r h => by
  split at h
  · exact (q0h5 N _ _ _ K).trans h
  · cases h
def q0h8 : SPat := ⟨[.agg [.vals [.int .i64], .ints .u8 8, .ints .u8 8]], []⟩
def q0h9 : SPat := ⟨[.tuple [.int .i64, .int .i64]], []⟩
theorem q0ha {α : Type} (N : Nat) (g_0 : Int) (g_1 g_2 : NI) (K : AV -> Heap -> Option α) :
    callK Try.prog (q0h6 α N) 1 62 0 (buildS q0h8 [.i g_0, .f g_1, .f g_2]).t (buildS q0h8 [.i g_0, .f g_1, .f g_2]).h K = q04f none N g_0 g_1 g_2 (fun r_0_ r_1_ => retK (buildS q0h9 [.i r_0_, .i r_1_]) K) := by kernel_rfl
def q0hb (α : Type) (N : Nat) : Env α := (q0h6 α N).addFun 62 true 0 q0h8 (fun l K => match l with
    | [.i g_0, .f g_1, .f g_2] => q04f none N g_0 g_1 g_2 (fun r_0_ r_1_ => retK (buildS q0h9 [.i r_0_, .i r_1_]) K)
    | _ => none)
theorem q0hc {α : Type} (N : Nat) : EnvOk Try.prog (q0hb α N) := (q0h7 N).addFun q05l q05m (d := 1) fun l K r h => by
  split at h
  · exact (q0ha N _ _ _ K).trans h
  · cases h
def q0hd (α : Type) (N : Nat) : Env α := (q0hb α N).addAnn 95 3 { head := [1, 2, 4, 5, 6, 16, 17], grow := [], out := [1, 2, 4, 5], ret := [2, 3] }
theorem q0he {α : Type} (N : Nat) : EnvOk Try.prog (q0hd α N) := (q0hc N).addAnn
def q0hf (α : Type) (N : Nat) : Env α := (q0hd α N).addAnn 95 8 { head := [1, 2, 4, 5, 6, 8, 16, 17], grow := [], out := [1, 2, 4, 5, 6, 16, 17], ret := [2, 3] }
theorem q0hg {α : Type} (N : Nat) : EnvOk Try.prog (q0hf α N) := (q0he N).addAnn
def q0hh : SPat := ⟨[.undef, .ptr ⟨⟨0, 0⟩, 0, 0, 1⟩, .ptr ⟨⟨1, 0⟩, 0, 0, 8⟩, .undef, .ptr ⟨⟨2, 0⟩, 0, 0, 8⟩, .int .i64, .ptr ⟨⟨3, 0⟩, 0, 0, 8⟩, .undef, .int .i64, .undef, .undef, .undef, .undef, .undef, .undef, .undef, .int .i64, .int .i64] ++ List.replicate 36 .undef, [[.vals [.int .i64], .ints .u8 8, .ints .u8 8], [.ints .i64 8], [.ints .i64 8], [.ints .i64 8]]⟩
def q0hi : SPat := ⟨[.undef, .ptr ⟨⟨0, 0⟩, 0, 0, 1⟩, .ptr ⟨⟨1, 0⟩, 0, 0, 8⟩, .undef, .ptr ⟨⟨2, 0⟩, 0, 0, 8⟩, .int .i64, .ptr ⟨⟨3, 0⟩, 0, 0, 8⟩, .undef, .undef, .undef, .undef, .undef, .undef, .undef, .undef, .undef, .int .i64, .int .i64] ++ List.replicate 36 .undef, [[.vals [.int .i64], .ints .u8 8, .ints .u8 8], [.ints .i64 8], [.ints .i64 8], [.ints .i64 8]]⟩
theorem q0hj {α : Type} (N : Nat) (many k t16 t17 h0_0 : Int) (h0_1 h0_2 h1 h2 h3 : NI) (kn : St -> Option α) (K : AExit -> St -> Option α) :
    roundK Try.prog (q0hf α N) 1 0 95 Try.f95 8 4 (buildS q0hh [.i many, .i k, .i t16, .i t17, .i h0_0, .f h0_1, .f h0_2, .f h1, .f h2, .f h3]) kn K = q01h none many t16 t17 h0_0 h0_1 h0_2 h1 h3 k h2 (fun k h2 => kn (buildS q0hh [.i many, .i k, .i t16, .i t17, .i h0_0, .f h0_1, .f h0_2, .f h1, .f h2, .f h3])) (fun h2_ => K (.exit 2) (buildS q0hi [.i many, .i t16, .i t17, .i h0_0, .f h0_1, .f h0_2, .f h1, .f h2_, .f h3])) := by kernel_rfl
theorem q0hk {α : Type} (N : Nat) (many t16 t17 h0_0 : Int) (h0_1 h0_2 h1 h3 : NI) (K : AExit -> St -> Option α) : ∀ (m : Nat) (k : Int) (h2 : NI),
    loopN (trimSt ((q0hf α N).ann 95 8).head ((q0hf α N).ann 95 8).grow 4) (bodyK Try.prog (q0hf α N) 1 0 95 Try.f95 8) m (buildS q0hh [.i many, .i k, .i t16, .i t17, .i h0_0, .f h0_1, .f h0_2, .f h1, .f h2, .f h3]) (leaveLoop ((q0hf α N).ann 95 8) 4 K) = q01i none many t16 t17 h0_0 h0_1 h0_2 h1 h3 m k h2 (fun h2_ => K (.exit 2) (buildS q0hi [.i many, .i t16, .i t17, .i h0_0, .f h0_1, .f h0_2, .f h1, .f h2_, .f h3])) := by
  intro m
  induction m with
  | zero => intros; rfl
  | succ m ih =>
    intro k h2
    rw [loopN_round]
    refine (q0hj N many k t16 t17 h0_0 h0_1 h0_2 h1 h2 h3 _ K).trans ?_
    simp only [ih]
    rfl
def q0hl (α : Type) (N : Nat) : Env α := (q0hf α N).addLoop2 95 8 (loopSum2 ((q0hf α N).ann 95 8) 0 q0hh (fun l K => match l with
    | [.i many, .i k, .i t16, .i t17, .i h0_0, .f h0_1, .f h0_2, .f h1, .f h2, .f h3] => q01i none many t16 t17 h0_0 h0_1 h0_2 h1 h3 N k h2 (fun h2_ => K (.exit 2) (buildS q0hi [.i many, .i t16, .i t17, .i h0_0, .f h0_1, .f h0_2, .f h1, .f h2_, .f h3]))
    | _ => none) ((q0hf α N).ls 95 8))
theorem q0hm {α : Type} (N : Nat) : EnvOk Try.prog (q0hl α N) := (q0hg N).addLoop2 Try.func95 (by kernel_rfl) (loopSum_ok q05l q05m (q0hg N) Try.func95 (by kernel_rfl) (d := 1) (ro := 0) fun l K r h => by
  split at h
  · exact (q0hk N _ _ _ _ _ _ _ _ K N _ _).trans h
  · cases h)
def q0hn : SPat := ⟨[.undef, .ptr ⟨⟨0, 0⟩, 0, 0, 1⟩, .ptr ⟨⟨1, 0⟩, 0, 0, 8⟩, .undef, .ptr ⟨⟨2, 0⟩, 0, 0, 8⟩, .int .i64, .ptr ⟨⟨3, 0⟩, 0, 0, 8⟩, .undef, .undef, .undef, .undef, .undef, .undef, .undef, .undef, .undef, .int .i64, .int .i64] ++ List.replicate 36 .undef, [[.vals [.int .i64], .ints .u8 8, .ints .u8 8], [.ints .i64 8], [.ints .i64 8], [.ints .i64 8]]⟩
def q0ho : SPat := ⟨[.undef, .ptr ⟨⟨0, 0⟩, 0, 0, 1⟩, .ptr ⟨⟨1, 0⟩, 0, 0, 8⟩, .undef, .ptr ⟨⟨2, 0⟩, 0, 0, 8⟩, .int .i64] ++ List.replicate 48 .undef, [[.vals [.int .i64], .ints .u8 8, .ints .u8 8], [.ints .i64 8], [.ints .i64 8], [.ints .i64 8]]⟩
theorem q0hp {α : Type} (N : Nat) (many t16 t17 h0_0 : Int) (h0_1 h0_2 h1 h2 h3 : NI) (kn : St -> Option α) (K : AExit -> St -> Option α) :
    roundK Try.prog (q0hl α N) 1 0 95 Try.f95 3 4 (buildS q0hn [.i many, .i t16, .i t17, .i h0_0, .f h0_1, .f h0_2, .f h1, .f h2, .f h3]) kn K = q01j none N t16 h0_0 h0_1 h0_2 h1 h3 many t17 h2 (fun many t17 h2 => kn (buildS q0hn [.i many, .i t16, .i t17, .i h0_0, .f h0_1, .f h0_2, .f h1, .f h2, .f h3])) (fun many_ h2_ => K (.exit 0) (buildS q0ho [.i many_, .i h0_0, .f h0_1, .f h0_2, .f h1, .f h2_, .f h3])) := by kernel_rfl
theorem q0hq {α : Type} (N : Nat) (t16 h0_0 : Int) (h0_1 h0_2 h1 h3 : NI) (K : AExit -> St -> Option α) : ∀ (m : Nat) (many t17 : Int) (h2 : NI),
    loopN (trimSt ((q0hl α N).ann 95 3).head ((q0hl α N).ann 95 3).grow 4) (bodyK Try.prog (q0hl α N) 1 0 95 Try.f95 3) m (buildS q0hn [.i many, .i t16, .i t17, .i h0_0, .f h0_1, .f h0_2, .f h1, .f h2, .f h3]) (leaveLoop ((q0hl α N).ann 95 3) 4 K) = q01k none N t16 h0_0 h0_1 h0_2 h1 h3 m many t17 h2 (fun many_ h2_ => K (.exit 0) (buildS q0ho [.i many_, .i h0_0, .f h0_1, .f h0_2, .f h1, .f h2_, .f h3])) := by
  intro m
  induction m with
  | zero => intros; rfl
  | succ m ih =>
    intro many t17 h2
    rw [loopN_round]
    refine (q0hp N many t16 t17 h0_0 h0_1 h0_2 h1 h2 h3 _ K).trans ?_
    simp only [ih]
    rfl
def q0hr (α : Type) (N : Nat) : Env α := (q0hl α N).addLoop2 95 3 (loopSum2 ((q0hl α N).ann 95 3) 0 q0hn (fun l K => match l with
    | [.i many, .i t16, .i t17, .i h0_0, .f h0_1, .f h0_2, .f h1, .f h2, .f h3] => q01k none N t16 h0_0 h0_1 h0_2 h1 h3 N many t17 h2 (fun many_ h2_ => K (.exit 0) (buildS q0ho [.i many_, .i h0_0, .f h0_1, .f h0_2, .f h1, .f h2_, .f h3]))
    | _ => none) ((q0hl α N).ls 95 3))
theorem q0hs {α : Type} (N : Nat) : EnvOk Try.prog (q0hr α N) := (q0hm N).addLoop2 Try.func95 (by kernel_rfl) (loopSum_ok q05l q05m (q0hm N) Try.func95 (by kernel_rfl) (d := 1) (ro := 0) fun l K r h => by
  split at h
  · exact (q0hq N _ _ _ _ _ _ K N _ _ _).trans h
  · cases h)
def q0ht (α : Type) (N : Nat) : Env α := (q0hr α N).addAnn 95 13 { head := [2, 4, 5, 42, 43], grow := [], out := [2, 4, 5], ret := [2, 3] }
theorem q0hu {α : Type} (N : Nat) : EnvOk Try.prog (q0ht α N) := (q0hs N).addAnn
def q0hv : SPat := ⟨[.undef, .undef, .ptr ⟨⟨1, 0⟩, 0, 0, 8⟩, .undef, .ptr ⟨⟨2, 0⟩, 0, 0, 8⟩, .int .i64, .undef, .undef, .undef, .undef, .undef, .undef, .undef, .undef, .undef, .undef, .undef, .undef, .undef, .undef, .undef, .undef, .undef, .undef, .undef, .undef, .undef, .undef, .undef, .undef, .undef, .undef, .undef, .undef, .undef, .undef, .undef, .undef, .undef, .undef, .undef, .undef, .int .i64, .int .i64] ++ List.replicate 10 .undef, [[.vals [.int .i64], .ints .u8 8, .ints .u8 8], [.ints .i64 8], [.ints .i64 8], [.ints .i64 8]]⟩
def q0hw : SPat := ⟨[.undef, .undef, .ptr ⟨⟨1, 0⟩, 0, 0, 8⟩, .undef, .ptr ⟨⟨2, 0⟩, 0, 0, 8⟩, .int .i64] ++ List.replicate 48 .undef, [[.vals [.int .i64], .ints .u8 8, .ints .u8 8], [.ints .i64 8], [.ints .i64 8], [.ints .i64 8]]⟩
theorem q0hx {α : Type} (N : Nat) (many t42 t43 h0_0 : Int) (h0_1 h0_2 h1 h2 h3 : NI) (kn : St -> Option α) (K : AExit -> St -> Option α) :
    roundK Try.prog (q0ht α N) 1 0 95 Try.f95 13 4 (buildS q0hv [.i many, .i t42, .i t43, .i h0_0, .f h0_1, .f h0_2, .f h1, .f h2, .f h3]) kn K = q01l none many t42 h0_0 h0_1 h0_2 h1 h3 t43 h2 (fun t43 h2 => kn (buildS q0hv [.i many, .i t42, .i t43, .i h0_0, .f h0_1, .f h0_2, .f h1, .f h2, .f h3])) (fun h2_ => K (.exit 4) (buildS q0hw [.i many, .i h0_0, .f h0_1, .f h0_2, .f h1, .f h2_, .f h3])) := by kernel_rfl
theorem q0hy {α : Type} (N : Nat) (many t42 h0_0 : Int) (h0_1 h0_2 h1 h3 : NI) (K : AExit -> St -> Option α) : ∀ (m : Nat) (t43 : Int) (h2 : NI),
    loopN (trimSt ((q0ht α N).ann 95 13).head ((q0ht α N).ann 95 13).grow 4) (bodyK Try.prog (q0ht α N) 1 0 95 Try.f95 13) m (buildS q0hv [.i many, .i t42, .i t43, .i h0_0, .f h0_1, .f h0_2, .f h1, .f h2, .f h3]) (leaveLoop ((q0ht α N).ann 95 13) 4 K) = q01m none many t42 h0_0 h0_1 h0_2 h1 h3 m t43 h2 (fun h2_ => K (.exit 4) (buildS q0hw [.i many, .i h0_0, .f h0_1, .f h0_2, .f h1, .f h2_, .f h3])) := by
  intro m
  induction m with
  | zero => intros; rfl
  | succ m ih =>
    intro t43 h2
    rw [loopN_round]
    refine (q0hx N many t42 t43 h0_0 h0_1 h0_2 h1 h2 h3 _ K).trans ?_
    simp only [ih]
    rfl
def q0hz (α : Type) (N : Nat) : Env α := (q0ht α N).addLoop2 95 13 (loopSum2 ((q0ht α N).ann 95 13) 0 q0hv (fun l K => match l with
    | [.i many, .i t42, .i t43, .i h0_0, .f h0_1, .f h0_2, .f h1, .f h2, .f h3] => q01m none many t42 h0_0 h0_1 h0_2 h1 h3 N t43 h2 (fun h2_ => K (.exit 4) (buildS q0hw [.i many, .i h0_0, .f h0_1, .f h0_2, .f h1, .f h2_, .f h3]))
    | _ => none) ((q0ht α N).ls 95 13))
theorem q0i0 {α : Type} (N : Nat) : EnvOk Try.prog (q0hz α N) := (q0hu N).addLoop2 Try.func95 (by kernel_rfl) (loopSum_ok q05l q05m (q0hu N) Try.func95 (by kernel_rfl) (d := 1) (ro := 0) fun l K r h => by
  split at h
  · exact (q0hy N _ _ _ _ _ _ _ K N _ _).trans h
  · cases h)
def q0i1 : SPat := ⟨[.agg [.vals [.int .i64], .ints .u8 8, .ints .u8 8]], []⟩
def q0i2 : SPat := ⟨[.tuple [.agg [.ints .i64 8], .int .i64]], []⟩
theorem q0i3 {α : Type} (N : Nat) (g_0 : Int) (g_1 g_2 : NI) (K : AV -> Heap -> Option α) :
    callK Try.prog (q0hz α N) 1 95 0 (buildS q0i1 [.i g_0, .f g_1, .f g_2]).t (buildS q0i1 [.i g_0, .f g_1, .f g_2]).h K = q01n none N g_0 g_1 g_2 (fun r_0_ r_1_ => retK (buildS q0i2 [.f r_0_, .i r_1_]) K) := by kernel_rfl
def q0i4 (α : Type) (N : Nat) : Env α := (q0hz α N).addFun 95 true 0 q0i1 (fun l K => match l with
    | [.i g_0, .f g_1, .f g_2] => q01n none N g_0 g_1 g_2 (fun r_0_ r_1_ => retK (buildS q0i2 [.f r_0_, .i r_1_]) K)
    | _ => none)
theorem q0i5 {α : Type} (N : Nat) : EnvOk Try.prog (q0i4 α N) := (q0i0 N).addFun q05l q05m (d := 1) fun l K r h => by
  split at h
  · exact (q0i3 N _ _ _ K).trans h
  · cases h
def q0i6 (α : Type) (N : Nat) : Env α := (q0i4 α N).addAnn 98 5 { head := [1, 3, 4, 5, 6, 23, 24], grow := [6], out := [1, 3, 5, 6], ret := [2] }
theorem q0i7 {α : Type} (N : Nat) : EnvOk Try.prog (q0i6 α N) := (q0i5 N).addAnn
def q0i8 : SPat := ⟨[.undef, .ptr ⟨⟨0, 0⟩, 0, 0, 1⟩, .undef, .ptr ⟨⟨1, 0⟩, 0, 0, 8⟩, .int .i64, .ptr ⟨⟨2, 0⟩, 0, 0, 8⟩, .sliceV 4 0 0 1 false, .undef, .undef, .undef, .undef, .undef, .undef, .undef, .undef, .undef, .undef, .undef, .undef, .undef, .undef, .undef, .undef, .int .i64, .int .i64] ++ List.replicate 78 .undef, [[.vals [.int .i64], .ints .u8 8, .ints .u8 8], [.ints .i64 8], [.ints .i64 8], [.pool .i64], [.hdr 3]]⟩
def q0i9 : SPat := ⟨[.undef, .ptr ⟨⟨0, 0⟩, 0, 0, 1⟩, .undef, .ptr ⟨⟨1, 0⟩, 0, 0, 8⟩, .undef, .ptr ⟨⟨2, 0⟩, 0, 0, 8⟩, .sliceV 4 0 0 1 false] ++ List.replicate 96 .undef, [[.vals [.int .i64], .ints .u8 8, .ints .u8 8], [.ints .i64 8], [.ints .i64 8], [.pool .i64], [.hdr 3]]⟩
theorem q0ia {α : Type} (N : Nat) (t4 : Int) (t6_n t6_l t6_c : Nat) (t23 t24 h0_0 : Int) (h0_1 h0_2 h1 h2 : NI) (h3 : List (List Int)) (h4 : List (Nat × Nat)) (kn : St -> Option α) (K : AExit -> St -> Option α) :
    roundK Try.prog (q0i6 α N) 1 0 98 Try.f98 5 5 (buildS q0i8 [.i t4, .n t6_n, .n t6_l, .n t6_c, .i t23, .i t24, .i h0_0, .f h0_1, .f h0_2, .f h1, .f h2, .r h3, .p h4]) kn K = q01v none t4 t23 h0_0 h0_1 h0_2 h1 h2 t6_n t6_l t6_c t24 h3 h4 (fun t6_n t6_l t6_c t24 h3 h4 => kn (buildS q0i8 [.i t4, .n t6_n, .n t6_l, .n t6_c, .i t23, .i t24, .i h0_0, .f h0_1, .f h0_2, .f h1, .f h2, .r h3, .p h4])) (fun t6_n_ t6_l_ t6_c_ h3_ h4_ => K (.exit 0) (buildS q0i9 [.n t6_n_, .n t6_l_, .n t6_c_, .i h0_0, .f h0_1, .f h0_2, .f h1, .f h2, .r h3_, .p h4_])) := by kernel_rfl
theorem q0ib {α : Type} (N : Nat) (t4 t23 h0_0 : Int) (h0_1 h0_2 h1 h2 : NI) (K : AExit -> St -> Option α) : ∀ (m t6_n t6_l t6_c : Nat) (t24 : Int) (h3 : List (List Int)) (h4 : List (Nat × Nat)),
    loopN (trimSt ((q0i6 α N).ann 98 5).head ((q0i6 α N).ann 98 5).grow 5) (bodyK Try.prog (q0i6 α N) 1 0 98 Try.f98 5) m (buildS q0i8 [.i t4, .n t6_n, .n t6_l, .n t6_c, .i t23, .i t24, .i h0_0, .f h0_1, .f h0_2, .f h1, .f h2, .r h3, .p h4]) (leaveLoop ((q0i6 α N).ann 98 5) 5 K) = q01w none t4 t23 h0_0 h0_1 h0_2 h1 h2 m t6_n t6_l t6_c t24 h3 h4 (fun t6_n_ t6_l_ t6_c_ h3_ h4_ => K (.exit 0) (buildS q0i9 [.n t6_n_, .n t6_l_, .n t6_c_, .i h0_0, .f h0_1, .f h0_2, .f h1, .f h2, .r h3_, .p h4_])) := by
  intro m
  induction m with
  | zero => intros; rfl
  | succ m ih =>
    intro t6_n t6_l t6_c t24 h3 h4
    rw [loopN_round]
    refine (q0ia N t4 t6_n t6_l t6_c t23 t24 h0_0 h0_1 h0_2 h1 h2 h3 h4 _ K).trans ?_
    simp only [ih]
    rfl
def q0ic (α : Type) (N : Nat) : Env α := (q0i6 α N).addLoop2 98 5 (loopSum2 ((q0i6 α N).ann 98 5) 0 q0i8 (fun l K => match l with
    | [.i t4, .n t6_n, .n t6_l, .n t6_c, .i t23, .i t24, .i h0_0, .f h0_1, .f h0_2, .f h1, .f h2, .r h3, .p h4] => q01w none t4 t23 h0_0 h0_1 h0_2 h1 h2 N t6_n t6_l t6_c t24 h3 h4 (fun t6_n_ t6_l_ t6_c_ h3_ h4_ => K (.exit 0) (buildS q0i9 [.n t6_n_, .n t6_l_, .n t6_c_, .i h0_0, .f h0_1, .f h0_2, .f h1, .f h2, .r h3_, .p h4_]))
    | _ => none) ((q0i6 α N).ls 98 5))
theorem q0id {α : Type} (N : Nat) : EnvOk Try.prog (q0ic α N) := (q0i7 N).addLoop2 Try.func98 (by kernel_rfl) (loopSum_ok q05l q05m (q0i7 N) Try.func98 (by kernel_rfl) (d := 1) (ro := 0) fun l K r h => by
  split at h
  · exact (q0ib N _ _ _ _ _ _ _ K N _ _ _ _ _ _).trans h
  · cases h)
def q0ie (α : Type) (N : Nat) : Env α := (q0ic α N).addAnn 98 9 { head := [3, 5, 6, 33, 34, 35], grow := [], out := [6], ret := [2] }
theorem q0if {α : Type} (N : Nat) : EnvOk Try.prog (q0ie α N) := (q0id N).addAnn
def q0ig : SPat := ⟨[.undef, .undef, .undef, .ptr ⟨⟨1, 0⟩, 0, 0, 8⟩, .undef, .ptr ⟨⟨2, 0⟩, 0, 0, 8⟩, .sliceV 4 0 0 1 false, .undef, .undef, .undef, .undef, .undef, .undef, .undef, .undef, .undef, .undef, .undef, .undef, .undef, .undef, .undef, .undef, .undef, .undef, .undef, .undef, .undef, .undef, .undef, .undef, .undef, .undef, .sliceV 5 0 0 3 false, .int .i64, .int .i64] ++ List.replicate 67 .undef, [[.vals [.int .i64], .ints .u8 8, .ints .u8 8], [.ints .i64 8], [.ints .i64 8], [.pool .i64], [.hdr 3], [.vec .i64]]⟩
def q0ih : SPat := ⟨[.undef, .undef, .undef, .undef, .undef, .undef, .sliceV 4 0 0 1 false] ++ List.replicate 96 .undef, [[.vals [.int .i64], .ints .u8 8, .ints .u8 8], [.ints .i64 8], [.ints .i64 8], [.pool .i64], [.hdr 3], [.vec .i64]]⟩
theorem q0ii {α : Type} (N t6_n t6_l t6_c t33_n t33_l t33_c : Nat) (t34 t35 h0_0 : Int) (h0_1 h0_2 h1 h2 : NI) (h3 : List (List Int)) (h4 : List (Nat × Nat)) (h5 : List Int) (kn : St -> Option α) (K : AExit -> St -> Option α) :
    roundK Try.prog (q0ie α N) 1 0 98 Try.f98 9 6 (buildS q0ig [.n t6_n, .n t6_l, .n t6_c, .n t33_n, .n t33_l, .n t33_c, .i t34, .i t35, .i h0_0, .f h0_1, .f h0_2, .f h1, .f h2, .r h3, .p h4, .l h5]) kn K = q01x none t6_n t6_l t6_c t33_n t33_l t33_c t34 h0_0 h0_1 h0_2 h1 h2 h4 h5 t35 h3 (fun t35 h3 => kn (buildS q0ig [.n t6_n, .n t6_l, .n t6_c, .n t33_n, .n t33_l, .n t33_c, .i t34, .i t35, .i h0_0, .f h0_1, .f h0_2, .f h1, .f h2, .r h3, .p h4, .l h5])) (fun h3_ => K (.exit 2) (buildS q0ih [.n t6_n, .n t6_l, .n t6_c, .i h0_0, .f h0_1, .f h0_2, .f h1, .f h2, .r h3_, .p h4, .l h5])) := by kernel_rfl
theorem q0ij {α : Type} (N t6_n t6_l t6_c t33_n t33_l t33_c : Nat) (t34 h0_0 : Int) (h0_1 h0_2 h1 h2 : NI) (h4 : List (Nat × Nat)) (h5 : List Int) (K : AExit -> St -> Option α) : ∀ (m : Nat) (t35 : Int) (h3 : List (List Int)),
    loopN (trimSt ((q0ie α N).ann 98 9).head ((q0ie α N).ann 98 9).grow 6) (bodyK Try.prog (q0ie α N) 1 0 98 Try.f98 9) m (buildS q0ig [.n t6_n, .n t6_l, .n t6_c, .n t33_n, .n t33_l, .n t33_c, .i t34, .i t35, .i h0_0, .f h0_1, .f h0_2, .f h1, .f h2, .r h3, .p h4, .l h5]) (leaveLoop ((q0ie α N).ann 98 9) 6 K) = q01y none t6_n t6_l t6_c t33_n t33_l t33_c t34 h0_0 h0_1 h0_2 h1 h2 h4 h5 m t35 h3 (fun h3_ => K (.exit 2) (buildS q0ih [.n t6_n, .n t6_l, .n t6_c, .i h0_0, .f h0_1, .f h0_2, .f h1, .f h2, .r h3_, .p h4, .l h5])) := by
  intro m
  induction m with
  | zero => intros; rfl
  | succ m ih =>
    intro t35 h3
    rw [loopN_round]
    refine (q0ii N t6_n t6_l t6_c t33_n t33_l t33_c t34 t35 h0_0 h0_1 h0_2 h1 h2 h3 h4 h5 _ K).trans ?_
    simp only [ih]
    rfl
def q0ik (α : Type) (N : Nat) : Env α := (q0ie α N).addLoop2 98 9 (loopSum2 ((q0ie α N).ann 98 9) 0 q0ig (fun l K => match l with
    | [.n t6_n, .n t6_l, .n t6_c, .n t33_n, .n t33_l, .n t33_c, .i t34, .i t35, .i h0_0, .f h0_1, .f h0_2, .f h1, .f h2, .r h3, .p h4, .l h5] => q01y none t6_n t6_l t6_c t33_n t33_l t33_c t34 h0_0 h0_1 h0_2 h1 h2 h4 h5 N t35 h3 (fun h3_ => K (.exit 2) (buildS q0ih [.n t6_n, .n t6_l, .n t6_c, .i h0_0, .f h0_1, .f h0_2, .f h1, .f h2, .r h3_, .p h4, .l h5]))
    | _ => none) ((q0ie α N).ls 98 9))
theorem q0il {α : Type} (N : Nat) : EnvOk Try.prog (q0ik α N) := (q0if N).addLoop2 Try.func98 (by kernel_rfl) (loopSum_ok q05l q05m (q0if N) Try.func98 (by kernel_rfl) (d := 1) (ro := 0) fun l K r h => by
  split at h
  · exact (q0ij N _ _ _ _ _ _ _ _ _ _ _ _ _ _ K N _ _).trans h
  · cases h)
def q0im (α : Type) (N : Nat) : Env α := (q0ik α N).addAnn 98 17 { head := [6, 76, 77], grow := [], out := [6], ret := [2] }
theorem q0in {α : Type} (N : Nat) : EnvOk Try.prog (q0im α N) := (q0il N).addAnn
def q0io (α : Type) (N : Nat) : Env α := (q0im α N).addAnn 98 20 { head := [6, 11, 76, 77, 84, 85], grow := [], out := [6, 76, 77], ret := [2] }
theorem q0ip {α : Type} (N : Nat) : EnvOk Try.prog (q0io α N) := (q0in N).addAnn
def q0iq : SPat := ⟨[.undef, .undef, .undef, .undef, .undef, .undef, .sliceV 4 0 0 1 false, .undef, .undef, .undef, .undef, .int .i64, .undef, .undef, .undef, .undef, .undef, .undef, .undef, .undef, .undef, .undef, .undef, .undef, .undef, .undef, .undef, .undef, .undef, .undef, .undef, .undef, .undef, .undef, .undef, .undef, .undef, .undef, .undef, .undef, .undef, .undef, .undef, .undef, .undef, .undef, .undef, .undef, .undef, .undef, .undef, .undef, .undef, .undef, .undef, .undef, .undef, .undef, .undef, .undef, .undef, .undef, .undef, .undef, .undef, .undef, .undef, .undef, .undef, .undef, .undef, .undef, .undef, .undef, .undef, .undef, .int .i64, .int .i64, .undef, .undef, .undef, .undef, .undef, .undef, .int .i64, .int .i64] ++ List.replicate 17 .undef, [[.vals [.int .i64], .ints .u8 8, .ints .u8 8], [.ints .i64 8], [.ints .i64 8], [.pool .i64], [.hdr 3], [.vec .i64]]⟩
def q0ir : SPat := ⟨[.undef, .undef, .undef, .undef, .undef, .undef, .sliceV 4 0 0 1 false, .undef, .undef, .undef, .undef, .undef, .undef, .undef, .undef, .undef, .undef, .undef, .undef, .undef, .undef, .undef, .undef, .undef, .undef, .undef, .undef, .undef, .undef, .undef, .undef, .undef, .undef, .undef, .undef, .undef, .undef, .undef, .undef, .undef, .undef, .undef, .undef, .undef, .undef, .undef, .undef, .undef, .undef, .undef, .undef, .undef, .undef, .undef, .undef, .undef, .undef, .undef, .undef, .undef, .undef, .undef, .undef, .undef, .undef, .undef, .undef, .undef, .undef, .undef, .undef, .undef, .undef, .undef, .undef, .undef, .int .i64, .int .i64] ++ List.replicate 25 .undef, [[.vals [.int .i64], .ints .u8 8, .ints .u8 8], [.ints .i64 8], [.ints .i64 8], [.pool .i64], [.hdr 3], [.vec .i64]]⟩
theorem q0is {α : Type} (N t6_n t6_l t6_c : Nat) (t11 t76 t77 t84 t85 h0_0 : Int) (h0_1 h0_2 h1 h2 : NI) (h3 : List (List Int)) (h4 : List (Nat × Nat)) (h5 : List Int) (kn : St -> Option α) (K : AExit -> St -> Option α) :
    roundK Try.prog (q0io α N) 1 0 98 Try.f98 20 6 (buildS q0iq [.n t6_n, .n t6_l, .n t6_c, .i t11, .i t76, .i t77, .i t84, .i t85, .i h0_0, .f h0_1, .f h0_2, .f h1, .f h2, .r h3, .p h4, .l h5]) kn K = q01z none t6_n t6_l t6_c t11 t76 t77 t84 h0_0 h0_1 h0_2 h1 h2 h4 h5 t85 h3 (fun t85 h3 => kn (buildS q0iq [.n t6_n, .n t6_l, .n t6_c, .i t11, .i t76, .i t77, .i t84, .i t85, .i h0_0, .f h0_1, .f h0_2, .f h1, .f h2, .r h3, .p h4, .l h5])) (fun h3_ => K (.exit 6) (buildS q0ir [.n t6_n, .n t6_l, .n t6_c, .i t76, .i t77, .i h0_0, .f h0_1, .f h0_2, .f h1, .f h2, .r h3_, .p h4, .l h5])) := by kernel_rfl
theorem q0it {α : Type} (N t6_n t6_l t6_c : Nat) (t11 t76 t77 t84 h0_0 : Int) (h0_1 h0_2 h1 h2 : NI) (h4 : List (Nat × Nat)) (h5 : List Int) (K : AExit -> St -> Option α) : ∀ (m : Nat) (t85 : Int) (h3 : List (List Int)),
    loopN (trimSt ((q0io α N).ann 98 20).head ((q0io α N).ann 98 20).grow 6) (bodyK Try.prog (q0io α N) 1 0 98 Try.f98 20) m (buildS q0iq [.n t6_n, .n t6_l, .n t6_c, .i t11, .i t76, .i t77, .i t84, .i t85, .i h0_0, .f h0_1, .f h0_2, .f h1, .f h2, .r h3, .p h4, .l h5]) (leaveLoop ((q0io α N).ann 98 20) 6 K) = q020 none t6_n t6_l t6_c t11 t76 t77 t84 h0_0 h0_1 h0_2 h1 h2 h4 h5 m t85 h3 (fun h3_ => K (.exit 6) (buildS q0ir [.n t6_n, .n t6_l, .n t6_c, .i t76, .i t77, .i h0_0, .f h0_1, .f h0_2, .f h1, .f h2, .r h3_, .p h4, .l h5])) := by
  intro m
  induction m with
  | zero => intros; rfl
  | succ m ih =>
    intro t85 h3
    rw [loopN_round]
    refine (q0is N t6_n t6_l t6_c t11 t76 t77 t84 t85 h0_0 h0_1 h0_2 h1 h2 h3 h4 h5 _ K).trans ?_
    simp only [ih]
    rfl
def q0iu (α : Type) (N : Nat) : Env α := (q0io α N).addLoop2 98 20 (loopSum2 ((q0io α N).ann 98 20) 0 q0iq (fun l K => match l with
    | [.n t6_n, .n t6_l, .n t6_c, .i t11, .i t76, .i t77, .i t84, .i t85, .i h0_0, .f h0_1, .f h0_2, .f h1, .f h2, .r h3, .p h4, .l h5] => q020 none t6_n t6_l t6_c t11 t76 t77 t84 h0_0 h0_1 h0_2 h1 h2 h4 h5 N t85 h3 (fun h3_ => K (.exit 6) (buildS q0ir [.n t6_n, .n t6_l, .n t6_c, .i t76, .i t77, .i h0_0, .f h0_1, .f h0_2, .f h1, .f h2, .r h3_, .p h4, .l h5]))
    | _ => none) ((q0io α N).ls 98 20))
theorem q0iv {α : Type} (N : Nat) : EnvOk Try.prog (q0iu α N) := (q0ip N).addLoop2 Try.func98 (by kernel_rfl) (loopSum_ok q05l q05m (q0ip N) Try.func98 (by kernel_rfl) (d := 1) (ro := 0) fun l K r h => by
  split at h
  · exact (q0it N _ _ _ _ _ _ _ _ _ _ _ _ _ _ K N _ _).trans h
  · cases h)
def q0iw : SPat := ⟨[.undef, .undef, .undef, .undef, .undef, .undef, .sliceV 4 0 0 1 false, .undef, .undef, .undef, .undef, .undef, .undef, .undef, .undef, .undef, .undef, .undef, .undef, .undef, .undef, .undef, .undef, .undef, .undef, .undef, .undef, .undef, .undef, .undef, .undef, .undef, .undef, .undef, .undef, .undef, .undef, .undef, .undef, .undef, .undef, .undef, .undef, .undef, .undef, .undef, .undef, .undef, .undef, .undef, .undef, .undef, .undef, .undef, .undef, .undef, .undef, .undef, .undef, .undef, .undef, .undef, .undef, .undef, .undef, .undef, .undef, .undef, .undef, .undef, .undef, .undef, .undef, .undef, .undef, .undef, .int .i64, .int .i64] ++ List.replicate 25 .undef, [[.vals [.int .i64], .ints .u8 8, .ints .u8 8], [.ints .i64 8], [.ints .i64 8], [.pool .i64], [.hdr 3], [.vec .i64]]⟩
def q0ix : SPat := ⟨[.undef, .undef, .undef, .undef, .undef, .undef, .sliceV 4 0 0 1 false] ++ List.replicate 96 .undef, [[.vals [.int .i64], .ints .u8 8, .ints .u8 8], [.ints .i64 8], [.ints .i64 8], [.pool .i64], [.hdr 3], [.vec .i64]]⟩
theorem q0iy {α : Type} (N t6_n t6_l t6_c : Nat) (t76 t77 h0_0 : Int) (h0_1 h0_2 h1 h2 : NI) (h3 : List (List Int)) (h4 : List (Nat × Nat)) (h5 : List Int) (kn : St -> Option α) (K : AExit -> St -> Option α) :
    roundK Try.prog (q0iu α N) 1 0 98 Try.f98 17 6 (buildS q0iw [.n t6_n, .n t6_l, .n t6_c, .i t76, .i t77, .i h0_0, .f h0_1, .f h0_2, .f h1, .f h2, .r h3, .p h4, .l h5]) kn K = q021 none N t6_n t6_l t6_c t76 h0_0 h0_1 h0_2 h1 h2 h4 h5 t77 h3 (fun t77 h3 => kn (buildS q0iw [.n t6_n, .n t6_l, .n t6_c, .i t76, .i t77, .i h0_0, .f h0_1, .f h0_2, .f h1, .f h2, .r h3, .p h4, .l h5])) (fun h3_ => K (.exit 4) (buildS q0ix [.n t6_n, .n t6_l, .n t6_c, .i h0_0, .f h0_1, .f h0_2, .f h1, .f h2, .r h3_, .p h4, .l h5])) := by kernel_rfl
theorem q0iz {α : Type} (N t6_n t6_l t6_c : Nat) (t76 h0_0 : Int) (h0_1 h0_2 h1 h2 : NI) (h4 : List (Nat × Nat)) (h5 : List Int) (K : AExit -> St -> Option α) : ∀ (m : Nat) (t77 : Int) (h3 : List (List Int)),
    loopN (trimSt ((q0iu α N).ann 98 17).head ((q0iu α N).ann 98 17).grow 6) (bodyK Try.prog (q0iu α N) 1 0 98 Try.f98 17) m (buildS q0iw [.n t6_n, .n t6_l, .n t6_c, .i t76, .i t77, .i h0_0, .f h0_1, .f h0_2, .f h1, .f h2, .r h3, .p h4, .l h5]) (leaveLoop ((q0iu α N).ann 98 17) 6 K) = q022 none N t6_n t6_l t6_c t76 h0_0 h0_1 h0_2 h1 h2 h4 h5 m t77 h3 (fun h3_ => K (.exit 4) (buildS q0ix [.n t6_n, .n t6_l, .n t6_c, .i h0_0, .f h0_1, .f h0_2, .f h1, .f h2, .r h3_, .p h4, .l h5])) := by
  intro m
  induction m with
  | zero => intros; rfl
  | succ m ih =>
    intro t77 h3
    rw [loopN_round]
    refine (q0iy N t6_n t6_l t6_c t76 t77 h0_0 h0_1 h0_2 h1 h2 h3 h4 h5 _ K).trans ?_
    simp only [ih]
    rfl
def q0j0 (α : Type) (N : Nat) : Env α := (q0iu α N).addLoop2 98 17 (loopSum2 ((q0iu α N).ann 98 17) 0 q0iw (fun l K => match l with
    | [.n t6_n, .n t6_l, .n t6_c, .i t76, .i t77, .i h0_0, .f h0_1, .f h0_2, .f h1, .f h2, .r h3, .p h4, .l h5] => q022 none N t6_n t6_l t6_c t76 h0_0 h0_1 h0_2 h1 h2 h4 h5 N t77 h3 (fun h3_ => K (.exit 4) (buildS q0ix [.n t6_n, .n t6_l, .n t6_c, .i h0_0, .f h0_1, .f h0_2, .f h1, .f h2, .r h3_, .p h4, .l h5]))
    | _ => none) ((q0iu α N).ls 98 17))
theorem q0j1 {α : Type} (N : Nat) : EnvOk Try.prog (q0j0 α N) := (q0iv N).addLoop2 Try.func98 (by kernel_rfl) (loopSum_ok q05l q05m (q0iv N) Try.func98 (by kernel_rfl) (d := 1) (ro := 0) fun l K r h => by
  split at h
  · exact (q0iz N _ _ _ _ _ _ _ _ _ _ _ K N _ _).trans h
  · cases h)
def q0j2 : SPat := ⟨[.agg [.vals [.int .i64], .ints .u8 8, .ints .u8 8]], []⟩
def q0j3 : SPat := ⟨[.sliceV 0 0 0 1 false], [[.hdr 1], [.pool .i64]]⟩
theorem q0j4 {α : Type} (N : Nat) (g_0 : Int) (g_1 g_2 : NI) (K : AV -> Heap -> Option α) :
    callK Try.prog (q0j0 α N) 1 98 0 (buildS q0j2 [.i g_0, .f g_1, .f g_2]).t (buildS q0j2 [.i g_0, .f g_1, .f g_2]).h K = q023 none N g_0 g_1 g_2 (fun r_n_ r_l_ r_c_ h0_ h1_ => retK (buildS q0j3 [.n r_n_, .n r_l_, .n r_c_, .p h0_, .r h1_]) K) := by kernel_rfl
def q0j5 (α : Type) (N : Nat) : Env α := (q0j0 α N).addFun 98 true 0 q0j2 (fun l K => match l with
    | [.i g_0, .f g_1, .f g_2] => q023 none N g_0 g_1 g_2 (fun r_n_ r_l_ r_c_ h0_ h1_ => retK (buildS q0j3 [.n r_n_, .n r_l_, .n r_c_, .p h0_, .r h1_]) K)
    | _ => none)
theorem q0j6 {α : Type} (N : Nat) : EnvOk Try.prog (q0j5 α N) := (q0j1 N).addFun q05l q05m (d := 1) fun l K r h => by
  split at h
  · exact (q0j4 N _ _ _ K).trans h
  · cases h
def q0j7 : SPat := ⟨[.agg [.vals [.int .i64], .ints .u8 8, .ints .u8 8], .func 98 []], []⟩
def q0j8 : SPat := ⟨[.tuple [.nils, .int .i64]], []⟩
def q0j9 : SPat := ⟨[.tuple [.sliceV 0 0 0 1 false, .int .i64]], [[.hdr 1], [.pool .i64]]⟩
theorem q0ja {α : Type} (N : Nat) (g_0 : Int) (g_1 g_2 : NI) (K : AV -> Heap -> Option α) :
    callK Try.prog (q0j5 α N) 1 93 0 (buildS q0j7 [.i g_0, .f g_1, .f g_2]).t (buildS q0j7 [.i g_0, .f g_1, .f g_2]).h K = q04g none N g_0 g_1 g_2 (fun r_1_ => retK (buildS q0j8 [.i r_1_]) K) (fun r_0_n_ r_0_l_ r_0_c_ r_1_ h0_ h1_ => retK (buildS q0j9 [.n r_0_n_, .n r_0_l_, .n r_0_c_, .i r_1_, .p h0_, .r h1_]) K) := by kernel_rfl
def q0jb (α : Type) (N : Nat) : Env α := (q0j5 α N).addFun 93 true 0 q0j7 (fun l K => match l with
    | [.i g_0, .f g_1, .f g_2] => q04g none N g_0 g_1 g_2 (fun r_1_ => retK (buildS q0j8 [.i r_1_]) K) (fun r_0_n_ r_0_l_ r_0_c_ r_1_ h0_ h1_ => retK (buildS q0j9 [.n r_0_n_, .n r_0_l_, .n r_0_c_, .i r_1_, .p h0_, .r h1_]) K)
    | _ => none)
theorem q0jc {α : Type} (N : Nat) : EnvOk Try.prog (q0jb α N) := (q0j6 N).addFun q05l q05m (d := 1) fun l K r h => by
  split at h
  · exact (q0ja N _ _ _ K).trans h
  · cases h
def q0jd : SPat := ⟨[.agg [.vals [.int .i64], .ints .u8 8, .ints .u8 8]], []⟩
def q0je : SPat := ⟨[.tuple [.nils, .int .i64]], []⟩
def q0jf : SPat := ⟨[.tuple [.sliceV 0 0 0 1 false, .int .i64]], [[.hdr 1], [.pool .i64]]⟩
theorem q0jg {α : Type} (N : Nat) (g_0 : Int) (g_1 g_2 : NI) (K : AV -> Heap -> Option α) :
    callK Try.prog (q0jb α N) 1 63 0 (buildS q0jd [.i g_0, .f g_1, .f g_2]).t (buildS q0jd [.i g_0, .f g_1, .f g_2]).h K = q04h none N g_0 g_1 g_2 (fun r_1_ => retK (buildS q0je [.i r_1_]) K) (fun r_0_n_ r_0_l_ r_0_c_ r_1_ h0_ h1_ => retK (buildS q0jf [.n r_0_n_, .n r_0_l_, .n r_0_c_, .i r_1_, .p h0_, .r h1_]) K) := by kernel_rfl
def q0jh (α : Type) (N : Nat) : Env α := (q0jb α N).addFun 63 true 0 q0jd (fun l K => match l with
    | [.i g_0, .f g_1, .f g_2] => q04h none N g_0 g_1 g_2 (fun r_1_ => retK (buildS q0je [.i r_1_]) K) (fun r_0_n_ r_0_l_ r_0_c_ r_1_ h0_ h1_ => retK (buildS q0jf [.n r_0_n_, .n r_0_l_, .n r_0_c_, .i r_1_, .p h0_, .r h1_]) K)
    | _ => none)
theorem q0ji {α : Type} (N : Nat) : EnvOk Try.prog (q0jh α N) := (q0jc N).addFun q05l q05m (d := 1) fun l K r h => by
  split at h
  · exact (q0jg N _ _ _ K).trans h
  · cases h
def q0jj (α : Type) (N : Nat) : Env α := (q0jh α N).addAnn 64 6 { head := [1, 4, 5, 6, 7, 8], grow := [], out := [5, 6], ret := [2, 3] }
theorem q0jk {α : Type} (N : Nat) : EnvOk Try.prog (q0jj α N) := (q0ji N).addAnn
def q0jl : SPat := ⟨[.undef, .ptr ⟨⟨0, 0⟩, 0, 0, 1⟩, .undef, .undef, .ptr ⟨⟨1, 0⟩, 0, 0, 8⟩, .int .i64, .ptr ⟨⟨3, 0⟩, 0, 0, 64⟩, .sliceV 2 0 0 3 false, .int .i64] ++ List.replicate 100 .undef, [[.vals [.int .i64], .ints .u8 8, .ints .u8 8], [.ints .i64 8], [.vec .i64], [.ints .i64 64]]⟩
def q0jm : SPat := ⟨[.undef, .undef, .undef, .undef, .undef, .int .i64, .ptr ⟨⟨3, 0⟩, 0, 0, 64⟩] ++ List.replicate 102 .undef, [[.vals [.int .i64], .ints .u8 8, .ints .u8 8], [.ints .i64 8], [.vec .i64], [.ints .i64 64]]⟩
theorem q0jn {α : Type} (N : Nat) (t5 : Int) (t7_n t7_l t7_c : Nat) (t8 h0_0 : Int) (h0_1 h0_2 h1 : NI) (h2 : List Int) (h3 : NI) (kn : St -> Option α) (K : AExit -> St -> Option α) :
    roundK Try.prog (q0jj α N) 1 0 64 Try.f64 6 4 (buildS q0jl [.i t5, .n t7_n, .n t7_l, .n t7_c, .i t8, .i h0_0, .f h0_1, .f h0_2, .f h1, .l h2, .f h3]) kn K = q01o none N t5 t7_n t7_l t7_c h0_0 h0_1 h0_2 h1 h2 t8 h3 (fun t8 h3 => kn (buildS q0jl [.i t5, .n t7_n, .n t7_l, .n t7_c, .i t8, .i h0_0, .f h0_1, .f h0_2, .f h1, .l h2, .f h3])) (fun h3_ => K (.exit 0) (buildS q0jm [.i t5, .i h0_0, .f h0_1, .f h0_2, .f h1, .l h2, .f h3_])) := by kernel_rfl
theorem q0jo {α : Type} (N : Nat) (t5 : Int) (t7_n t7_l t7_c : Nat) (h0_0 : Int) (h0_1 h0_2 h1 : NI) (h2 : List Int) (K : AExit -> St -> Option α) : ∀ (m : Nat) (t8 : Int) (h3 : NI),
    loopN (trimSt ((q0jj α N).ann 64 6).head ((q0jj α N).ann 64 6).grow 4) (bodyK Try.prog (q0jj α N) 1 0 64 Try.f64 6) m (buildS q0jl [.i t5, .n t7_n, .n t7_l, .n t7_c, .i t8, .i h0_0, .f h0_1, .f h0_2, .f h1, .l h2, .f h3]) (leaveLoop ((q0jj α N).ann 64 6) 4 K) = q01p none N t5 t7_n t7_l t7_c h0_0 h0_1 h0_2 h1 h2 m t8 h3 (fun h3_ => K (.exit 0) (buildS q0jm [.i t5, .i h0_0, .f h0_1, .f h0_2, .f h1, .l h2, .f h3_])) := by
  intro m
  induction m with
  | zero => intros; rfl
  | succ m ih =>
    intro t8 h3
    rw [loopN_round]
    refine (q0jn N t5 t7_n t7_l t7_c t8 h0_0 h0_1 h0_2 h1 h2 h3 _ K).trans ?_
    simp only [ih]
    rfl
def q0jp (α : Type) (N : Nat) : Env α := (q0jj α N).addLoop2 64 6 (loopSum2 ((q0jj α N).ann 64 6) 0 q0jl (fun l K => match l with
    | [.i t5, .n t7_n, .n t7_l, .n t7_c, .i t8, .i h0_0, .f h0_1, .f h0_2, .f h1, .l h2, .f h3] => q01p none N t5 t7_n t7_l t7_c h0_0 h0_1 h0_2 h1 h2 N t8 h3 (fun h3_ => K (.exit 0) (buildS q0jm [.i t5, .i h0_0, .f h0_1, .f h0_2, .f h1, .l h2, .f h3_]))
    | _ => none) ((q0jj α N).ls 64 6))
theorem q0jq {α : Type} (N : Nat) : EnvOk Try.prog (q0jp α N) := (q0jk N).addLoop2 Try.func64 (by kernel_rfl) (loopSum_ok q05l q05m (q0jk N) Try.func64 (by kernel_rfl) (d := 1) (ro := 0) fun l K r h => by
  split at h
  · exact (q0jo N _ _ _ _ _ _ _ _ _ K N _ _).trans h
  · cases h)
def q0jr (α : Type) (N : Nat) : Env α := (q0jp α N).addAnn 64 12 { head := [5, 6, 11, 12], grow := [11], out := [11], ret := [2, 3] }
theorem q0js {α : Type} (N : Nat) : EnvOk Try.prog (q0jr α N) := (q0jq N).addAnn
def q0jt (α : Type) (N : Nat) : Env α := (q0jr α N).addAnn 64 16 { head := [5, 6, 11, 12, 13, 14], grow := [13], out := [5, 6, 11, 12, 13], ret := [2, 3] }
theorem q0ju {α : Type} (N : Nat) : EnvOk Try.prog (q0jt α N) := (q0js N).addAnn
def q0jv : SPat := ⟨[.undef, .undef, .undef, .undef, .undef, .int .i64, .ptr ⟨⟨3, 0⟩, 0, 0, 64⟩, .undef, .undef, .undef, .undef, .sliceV 5 0 0 1 false, .int .i64, .sliceV 6 0 0 1 false, .int .i64] ++ List.replicate 94 .undef, [[.vals [.int .i64], .ints .u8 8, .ints .u8 8], [.ints .i64 8], [.vec .i64], [.ints .i64 64], [.pool .i64], [.hdr 4], [.vec .i64]]⟩
def q0jw : SPat := ⟨[.undef, .undef, .undef, .undef, .undef, .int .i64, .ptr ⟨⟨3, 0⟩, 0, 0, 64⟩, .undef, .undef, .undef, .undef, .sliceV 5 0 0 1 false, .int .i64, .sliceV 6 0 0 1 false] ++ List.replicate 95 .undef, [[.vals [.int .i64], .ints .u8 8, .ints .u8 8], [.ints .i64 8], [.vec .i64], [.ints .i64 64], [.pool .i64], [.hdr 4], [.vec .i64]]⟩
theorem q0jx {α : Type} (N : Nat) (t5 : Int) (t11_n t11_l t11_c : Nat) (t12 : Int) (t13_n t13_l t13_c : Nat) (t14 h0_0 : Int) (h0_1 h0_2 h1 : NI) (h2 : List Int) (h3 : NI) (h4 : List (List Int)) (h5 : List (Nat × Nat)) (h6 : List Int) (kn : St -> Option α) (K : AExit -> St -> Option α) :
    roundK Try.prog (q0jt α N) 1 0 64 Try.f64 16 7 (buildS q0jv [.i t5, .n t11_n, .n t11_l, .n t11_c, .i t12, .n t13_n, .n t13_l, .n t13_c, .i t14, .i h0_0, .f h0_1, .f h0_2, .f h1, .l h2, .f h3, .r h4, .p h5, .l h6]) kn K = q01q none t5 t11_n t11_l t11_c t12 h0_0 h0_1 h0_2 h1 h2 h3 h4 h5 t13_n t13_l t13_c t14 h6 (fun t13_n t13_l t13_c t14 h6 => kn (buildS q0jv [.i t5, .n t11_n, .n t11_l, .n t11_c, .i t12, .n t13_n, .n t13_l, .n t13_c, .i t14, .i h0_0, .f h0_1, .f h0_2, .f h1, .l h2, .f h3, .r h4, .p h5, .l h6])) (fun t13_n_ t13_l_ t13_c_ h6_ => K (.exit 4) (buildS q0jw [.i t5, .n t11_n, .n t11_l, .n t11_c, .i t12, .n t13_n_, .n t13_l_, .n t13_c_, .i h0_0, .f h0_1, .f h0_2, .f h1, .l h2, .f h3, .r h4, .p h5, .l h6_])) := by kernel_rfl
theorem q0jy {α : Type} (N : Nat) (t5 : Int) (t11_n t11_l t11_c : Nat) (t12 h0_0 : Int) (h0_1 h0_2 h1 : NI) (h2 : List Int) (h3 : NI) (h4 : List (List Int)) (h5 : List (Nat × Nat)) (K : AExit -> St -> Option α) : ∀ (m t13_n t13_l t13_c : Nat) (t14 : Int) (h6 : List Int),
    loopN (trimSt ((q0jt α N).ann 64 16).head ((q0jt α N).ann 64 16).grow 7) (bodyK Try.prog (q0jt α N) 1 0 64 Try.f64 16) m (buildS q0jv [.i t5, .n t11_n, .n t11_l, .n t11_c, .i t12, .n t13_n, .n t13_l, .n t13_c, .i t14, .i h0_0, .f h0_1, .f h0_2, .f h1, .l h2, .f h3, .r h4, .p h5, .l h6]) (leaveLoop ((q0jt α N).ann 64 16) 7 K) = q01r none t5 t11_n t11_l t11_c t12 h0_0 h0_1 h0_2 h1 h2 h3 h4 h5 m t13_n t13_l t13_c t14 h6 (fun t13_n_ t13_l_ t13_c_ h6_ => K (.exit 4) (buildS q0jw [.i t5, .n t11_n, .n t11_l, .n t11_c, .i t12, .n t13_n_, .n t13_l_, .n t13_c_, .i h0_0, .f h0_1, .f h0_2, .f h1, .l h2, .f h3, .r h4, .p h5, .l h6_])) := by
  intro m
  induction m with
  | zero => intros; rfl
  | succ m ih =>
    intro t13_n t13_l t13_c t14 h6
    rw [loopN_round]
    refine (q0jx N t5 t11_n t11_l t11_c t12 t13_n t13_l t13_c t14 h0_0 h0_1 h0_2 h1 h2 h3 h4 h5 h6 _ K).trans ?_
    simp only [ih]
    rfl
def q0jz (α : Type) (N : Nat) : Env α := (q0jt α N).addLoop2 64 16 (loopSum2 ((q0jt α N).ann 64 16) 0 q0jv (fun l K => match l with
    | [.i t5, .n t11_n, .n t11_l, .n t11_c, .i t12, .n t13_n, .n t13_l, .n t13_c, .i t14, .i h0_0, .f h0_1, .f h0_2, .f h1, .l h2, .f h3, .r h4, .p h5, .l h6] => q01r none t5 t11_n t11_l t11_c t12 h0_0 h0_1 h0_2 h1 h2 h3 h4 h5 N t13_n t13_l t13_c t14 h6 (fun t13_n_ t13_l_ t13_c_ h6_ => K (.exit 4) (buildS q0jw [.i t5, .n t11_n, .n t11_l, .n t11_c, .i t12, .n t13_n_, .n t13_l_, .n t13_c_, .i h0_0, .f h0_1, .f h0_2, .f h1, .l h2, .f h3, .r h4, .p h5, .l h6_]))
    | _ => none) ((q0jt α N).ls 64 16))
theorem q0k0 {α : Type} (N : Nat) : EnvOk Try.prog (q0jz α N) := (q0ju N).addLoop2 Try.func64 (by kernel_rfl) (loopSum_ok q05l q05m (q0ju N) Try.func64 (by kernel_rfl) (d := 1) (ro := 0) fun l K r h => by
  split at h
  · exact (q0jy N _ _ _ _ _ _ _ _ _ _ _ _ _ K N _ _ _ _ _).trans h
  · cases h)
def q0k1 : SPat := ⟨[.undef, .undef, .undef, .undef, .undef, .int .i64, .ptr ⟨⟨3, 0⟩, 0, 0, 64⟩, .undef, .undef, .undef, .undef, .sliceV 5 0 0 1 false, .int .i64] ++ List.replicate 96 .undef, [[.vals [.int .i64], .ints .u8 8, .ints .u8 8], [.ints .i64 8], [.vec .i64], [.ints .i64 64], [.pool .i64], [.hdr 4]]⟩
def q0k2 : SPat := ⟨[.undef, .undef, .undef, .undef, .undef, .undef, .undef, .undef, .undef, .undef, .undef, .sliceV 5 0 0 1 false] ++ List.replicate 97 .undef, [[.vals [.int .i64], .ints .u8 8, .ints .u8 8], [.ints .i64 8], [.vec .i64], [.ints .i64 64], [.pool .i64], [.hdr 4]]⟩
theorem q0k3 {α : Type} (N : Nat) (t5 : Int) (t11_n t11_l t11_c : Nat) (t12 h0_0 : Int) (h0_1 h0_2 h1 : NI) (h2 : List Int) (h3 : NI) (h4 : List (List Int)) (h5 : List (Nat × Nat)) (kn : St -> Option α) (K : AExit -> St -> Option α) :
    roundK Try.prog (q0jz α N) 1 0 64 Try.f64 12 6 (buildS q0k1 [.i t5, .n t11_n, .n t11_l, .n t11_c, .i t12, .i h0_0, .f h0_1, .f h0_2, .f h1, .l h2, .f h3, .r h4, .p h5]) kn K = q01s none N t5 h0_0 h0_1 h0_2 h1 h2 h3 t11_n t11_l t11_c t12 h4 h5 (fun t11_n t11_l t11_c t12 h4 h5 => kn (buildS q0k1 [.i t5, .n t11_n, .n t11_l, .n t11_c, .i t12, .i h0_0, .f h0_1, .f h0_2, .f h1, .l h2, .f h3, .r h4, .p h5])) (fun t11_n_ t11_l_ t11_c_ h4_ h5_ => K (.exit 2) (buildS q0k2 [.n t11_n_, .n t11_l_, .n t11_c_, .i h0_0, .f h0_1, .f h0_2, .f h1, .l h2, .f h3, .r h4_, .p h5_])) := by kernel_rfl
theorem q0k4 {α : Type} (N : Nat) (t5 h0_0 : Int) (h0_1 h0_2 h1 : NI) (h2 : List Int) (h3 : NI) (K : AExit -> St -> Option α) : ∀ (m t11_n t11_l t11_c : Nat) (t12 : Int) (h4 : List (List Int)) (h5 : List (Nat × Nat)),
    loopN (trimSt ((q0jz α N).ann 64 12).head ((q0jz α N).ann 64 12).grow 6) (bodyK Try.prog (q0jz α N) 1 0 64 Try.f64 12) m (buildS q0k1 [.i t5, .n t11_n, .n t11_l, .n t11_c, .i t12, .i h0_0, .f h0_1, .f h0_2, .f h1, .l h2, .f h3, .r h4, .p h5]) (leaveLoop ((q0jz α N).ann 64 12) 6 K) = q01t none N t5 h0_0 h0_1 h0_2 h1 h2 h3 m t11_n t11_l t11_c t12 h4 h5 (fun t11_n_ t11_l_ t11_c_ h4_ h5_ => K (.exit 2) (buildS q0k2 [.n t11_n_, .n t11_l_, .n t11_c_, .i h0_0, .f h0_1, .f h0_2, .f h1, .l h2, .f h3, .r h4_, .p h5_])) := by
  intro m
  induction m with
  | zero => intros; rfl
  | succ m ih =>
    intro t11_n t11_l t11_c t12 h4 h5
    rw [loopN_round]
    refine (q0k3 N t5 t11_n t11_l t11_c t12 h0_0 h0_1 h0_2 h1 h2 h3 h4 h5 _ K).trans ?_
    simp only [ih]
    rfl
def q0k5 (α : Type) (N : Nat) : Env α := (q0jz α N).addLoop2 64 12 (loopSum2 ((q0jz α N).ann 64 12) 0 q0k1 (fun l K => match l with
    | [.i t5, .n t11_n, .n t11_l, .n t11_c, .i t12, .i h0_0, .f h0_1, .f h0_2, .f h1, .l h2, .f h3, .r h4, .p h5] => q01t none N t5 h0_0 h0_1 h0_2 h1 h2 h3 N t11_n t11_l t11_c t12 h4 h5 (fun t11_n_ t11_l_ t11_c_ h4_ h5_ => K (.exit 2) (buildS q0k2 [.n t11_n_, .n t11_l_, .n t11_c_, .i h0_0, .f h0_1, .f h0_2, .f h1, .l h2, .f h3, .r h4_, .p h5_]))
    | _ => none) ((q0jz α N).ls 64 12))
theorem q0k6 {α : Type} (N : Nat) : EnvOk Try.prog (q0k5 α N) := (q0k0 N).addLoop2 Try.func64 (by kernel_rfl) (loopSum_ok q05l q05m (q0k0 N) Try.func64 (by kernel_rfl) (d := 1) (ro := 0) fun l K r h => by
  split at h
  · exact (q0k4 N _ _ _ _ _ _ _ K N _ _ _ _ _ _).trans h
  · cases h)
def q0k7 : SPat := ⟨[.agg [.vals [.int .i64], .ints .u8 8, .ints .u8 8]], []⟩
def q0k8 : SPat := ⟨[.tuple [.nils, .int .i64]], []⟩
def q0k9 : SPat := ⟨[.tuple [.sliceV 0 0 0 1 false, .int .i64]], [[.hdr 1], [.pool .i64]]⟩
theorem q0ka {α : Type} (N : Nat) (g_0 : Int) (g_1 g_2 : NI) (K : AV -> Heap -> Option α) :
    callK Try.prog (q0k5 α N) 1 64 0 (buildS q0k7 [.i g_0, .f g_1, .f g_2]).t (buildS q0k7 [.i g_0, .f g_1, .f g_2]).h K = q01u none N g_0 g_1 g_2 (fun r_1_ => retK (buildS q0k8 [.i r_1_]) K) (fun r_0_n_ r_0_l_ r_0_c_ r_1_ h0_ h1_ => retK (buildS q0k9 [.n r_0_n_, .n r_0_l_, .n r_0_c_, .i r_1_, .p h0_, .r h1_]) K) := by kernel_rfl
def q0kb (α : Type) (N : Nat) : Env α := (q0k5 α N).addFun 64 true 0 q0k7 (fun l K => match l with
    | [.i g_0, .f g_1, .f g_2] => q01u none N g_0 g_1 g_2 (fun r_1_ => retK (buildS q0k8 [.i r_1_]) K) (fun r_0_n_ r_0_l_ r_0_c_ r_1_ h0_ h1_ => retK (buildS q0k9 [.n r_0_n_, .n r_0_l_, .n r_0_c_, .i r_1_, .p h0_, .r h1_]) K)
    | _ => none)
theorem q0kc {α : Type} (N : Nat) : EnvOk Try.prog (q0kb α N) := (q0k6 N).addFun q05l q05m (d := 1) fun l K r h => by
  split at h
  · exact (q0ka N _ _ _ K).trans h
  · cases h
def q0kd : SPat := ⟨[.agg [.vals [.int .i64], .ints .u8 8, .ints .u8 8]], []⟩
def q0ke : SPat := ⟨[.agg [.vals [.int .i64], .ints .u8 8, .ints .u8 8]], []⟩
theorem q0kf {α : Type} (N : Nat) (g_0 : Int) (g_1 g_2 : NI) (K : AV -> Heap -> Option α) :
    callK Try.prog (q0kb α N) 1 113 0 (buildS q0kd [.i g_0, .f g_1, .f g_2]).t (buildS q0kd [.i g_0, .f g_1, .f g_2]).h K = q032 none N g_0 g_1 g_2 (retK (buildS q0ke [.i g_0, .f g_2, .f g_1]) K) := by kernel_rfl
def q0kg (α : Type) (N : Nat) : Env α := (q0kb α N).addFun 113 true 0 q0kd (fun l K => match l with
    | [.i g_0, .f g_1, .f g_2] => q032 none N g_0 g_1 g_2 (retK (buildS q0ke [.i g_0, .f g_2, .f g_1]) K)
    | _ => none)
theorem q0kh {α : Type} (N : Nat) : EnvOk Try.prog (q0kg α N) := (q0kc N).addFun q05l q05m (d := 1) fun l K r h => by
  split at h
  · exact (q0kf N _ _ _ K).trans h
  · cases h
def q0ki : SPat := ⟨[.agg [.vals [.int .i64], .ints .u8 8, .ints .u8 8], .func 113 []], []⟩
def q0kj : SPat := ⟨[.tuple [.agg [.vals [.int .i64], .ints .u8 8, .ints .u8 8], .int .i64]], []⟩
theorem q0kk {α : Type} (N : Nat) (g_0 : Int) (g_1 g_2 : NI) (K : AV -> Heap -> Option α) :
    callK Try.prog (q0kg α N) 1 111 0 (buildS q0ki [.i g_0, .f g_1, .f g_2]).t (buildS q0ki [.i g_0, .f g_1, .f g_2]).h K = q033 none N g_0 g_1 g_2 (fun r_0_0_ r_0_1_ r_0_2_ r_1_ => retK (buildS q0kj [.i r_0_0_, .f r_0_1_, .f r_0_2_, .i r_1_]) K) := by kernel_rfl
def q0kl (α : Type) (N : Nat) : Env α := (q0kg α N).addFun 111 true 0 q0ki (fun l K => match l with
    | [.i g_0, .f g_1, .f g_2] => q033 none N g_0 g_1 g_2 (fun r_0_0_ r_0_1_ r_0_2_ r_1_ => retK (buildS q0kj [.i r_0_0_, .f r_0_1_, .f r_0_2_, .i r_1_]) K)
    | _ => none)
theorem q0km {α : Type} (N : Nat) : EnvOk Try.prog (q0kl α N) := (q0kh N).addFun q05l q05m (d := 1) fun l K r h => by
  split at h
  · exact (q0kk N _ _ _ K).trans h
  · cases h
def q0kn : SPat := ⟨[.agg [.vals [.int .i64], .ints .u8 8, .ints .u8 8]], []⟩
def q0ko : SPat := ⟨[.tuple [.agg [.vals [.int .i64], .ints .u8 8, .ints .u8 8], .int .i64]], []⟩
theorem q0kp {α : Type} (N : Nat) (g_0 : Int) (g_1 g_2 : NI) (K : AV -> Heap -> Option α) :
    callK Try.prog (q0kl α N) 1 24 0 (buildS q0kn [.i g_0, .f g_1, .f g_2]).t (buildS q0kn [.i g_0, .f g_1, .f g_2]).h K = q034 none N g_0 g_1 g_2 (fun r_0_0_ r_0_1_ r_0_2_ r_1_ => retK (buildS q0ko [.i r_0_0_, .f r_0_1_, .f r_0_2_, .i r_1_]) K) := by kernel_rfl
def q0kq (α : Type) (N : Nat) : Env α := (q0kl α N).addFun 24 true 0 q0kn (fun l K => match l with
    | [.i g_0, .f g_1, .f g_2] => q034 none N g_0 g_1 g_2 (fun r_0_0_ r_0_1_ r_0_2_ r_1_ => retK (buildS q0ko [.i r_0_0_, .f r_0_1_, .f r_0_2_, .i r_1_]) K)
    | _ => none)
theorem q0kr {α : Type} (N : Nat) : EnvOk Try.prog (q0kq α N) := (q0km N).addFun q05l q05m (d := 1) fun l K r h => by
  split at h
  · exact (q0kp N _ _ _ K).trans h
  · cases h
def q0ks (α : Type) (N : Nat) : Env α := (q0kq α N).addAnn 162 6 { head := [1, 3, 6, 7, 8, 9, 22, 23], grow := [], out := [6, 7], ret := [6] }
theorem q0kt {α : Type} (N : Nat) : EnvOk Try.prog (q0ks α N) := (q0kr N).addAnn
def q0ku : SPat := ⟨[.int .i64, .int .i64, .ptr ⟨⟨0, 0⟩, 0, 0, 1⟩], [[.vals [.int .i64], .ints .u8 8, .ints .u8 8]]⟩
def q0kv : SPat := ⟨[.tuple [.int .i64, .int .i64]], [[.vals [.int .i64], .ints .u8 8, .ints .u8 8]]⟩
theorem q0kw {α : Type} (N : Nat) (i r_ h0_0 : Int) (h0_1 h0_2 : NI) (K : AV -> Heap -> Option α) :
    callK Try.prog (q0ks α N) 1 163 1 (buildS q0ku [.i i, .i r_, .i h0_0, .f h0_1, .f h0_2]).t (buildS q0ku [.i i, .i r_, .i h0_0, .f h0_1, .f h0_2]).h K = q04i none N i r_ h0_0 h0_1 h0_2 (fun r_1_ => retK (buildS q0kv [.i i, .i r_1_, .i h0_0, .f h0_1, .f h0_2]) K) := by kernel_rfl
def q0kx (α : Type) (N : Nat) : Env α := (q0ks α N).addFun 163 true 1 q0ku (fun l K => match l with
    | [.i i, .i r_, .i h0_0, .f h0_1, .f h0_2] => q04i none N i r_ h0_0 h0_1 h0_2 (fun r_1_ => retK (buildS q0kv [.i i, .i r_1_, .i h0_0, .f h0_1, .f h0_2]) K)
    | _ => none)
theorem q0ky {α : Type} (N : Nat) : EnvOk Try.prog (q0kx α N) := (q0kt N).addFun q05l q05m (d := 1) fun l K r h => by
  split at h
  · exact (q0kw N _ _ _ _ _ K).trans h
  · cases h
def q0kz : SPat := ⟨[.undef, .func 163 [.ptr ⟨⟨0, 0⟩, 0, 0, 1⟩], .undef, .ptr ⟨⟨1, 0⟩, 0, 0, 1⟩, .undef, .undef, .ptr ⟨⟨2, 0⟩, 0, 0, 1⟩, .ptr ⟨⟨3, 0⟩, 0, 0, 1⟩, .ptr ⟨⟨3, 0⟩, 2, 0, 8⟩, .ptr ⟨⟨3, 0⟩, 1, 0, 8⟩, .undef, .undef, .undef, .undef, .undef, .undef, .undef, .undef, .undef, .undef, .undef, .undef, .int .i64, .int .i64] ++ List.replicate 38 .undef, [[.vals [.int .i64], .ints .u8 8, .ints .u8 8], [.vals [.int .i64], .ints .u8 8, .ints .u8 8], [.vals [.int .i64], .ints .u8 8, .ints .u8 8], [.vals [.int .i64], .ints .u8 8, .ints .u8 8]]⟩
def q0l0 : SPat := ⟨[.undef, .undef, .undef, .undef, .undef, .undef, .ptr ⟨⟨2, 0⟩, 0, 0, 1⟩, .ptr ⟨⟨3, 0⟩, 0, 0, 1⟩] ++ List.replicate 54 .undef, [[.vals [.int .i64], .ints .u8 8, .ints .u8 8], [.vals [.int .i64], .ints .u8 8, .ints .u8 8], [.vals [.int .i64], .ints .u8 8, .ints .u8 8], [.vals [.int .i64], .ints .u8 8, .ints .u8 8]]⟩
theorem q0l1 {α : Type} (N : Nat) (t22 t23 h0_0 : Int) (h0_1 h0_2 : NI) (h1_0 : Int) (h1_1 h1_2 : NI) (h2_0 : Int) (h2_1 h2_2 : NI) (h3_0 : Int) (h3_1 h3_2 : NI) (kn : St -> Option α) (K : AExit -> St -> Option α) :
    roundK Try.prog (q0kx α N) 1 1 162 Try.f162 6 4 (buildS q0kz [.i t22, .i t23, .i h0_0, .f h0_1, .f h0_2, .i h1_0, .f h1_1, .f h1_2, .i h2_0, .f h2_1, .f h2_2, .i h3_0, .f h3_1, .f h3_2]) kn K = q04j none N t22 h0_0 h0_1 h0_2 h1_0 h1_1 h1_2 h2_0 h2_1 h2_2 h3_0 t23 h3_1 h3_2 (fun t23 h3_1 h3_2 => kn (buildS q0kz [.i t22, .i t23, .i h0_0, .f h0_1, .f h0_2, .i h1_0, .f h1_1, .f h1_2, .i h2_0, .f h2_1, .f h2_2, .i h3_0, .f h3_1, .f h3_2])) (fun h3_1_ h3_2_ => K (.exit 0) (buildS q0l0 [.i h0_0, .f h0_1, .f h0_2, .i h1_0, .f h1_1, .f h1_2, .i h2_0, .f h2_1, .f h2_2, .i h3_0, .f h3_1_, .f h3_2_])) := by kernel_rfl
theorem q0l2 {α : Type} (N : Nat) (t22 h0_0 : Int) (h0_1 h0_2 : NI) (h1_0 : Int) (h1_1 h1_2 : NI) (h2_0 : Int) (h2_1 h2_2 : NI) (h3_0 : Int) (K : AExit -> St -> Option α) : ∀ (m : Nat) (t23 : Int) (h3_1 h3_2 : NI),
    loopN (trimSt ((q0kx α N).ann 162 6).head ((q0kx α N).ann 162 6).grow 4) (bodyK Try.prog (q0kx α N) 1 1 162 Try.f162 6) m (buildS q0kz [.i t22, .i t23, .i h0_0, .f h0_1, .f h0_2, .i h1_0, .f h1_1, .f h1_2, .i h2_0, .f h2_1, .f h2_2, .i h3_0, .f h3_1, .f h3_2]) (leaveLoop ((q0kx α N).ann 162 6) 4 K) = q04k none N t22 h0_0 h0_1 h0_2 h1_0 h1_1 h1_2 h2_0 h2_1 h2_2 h3_0 m t23 h3_1 h3_2 (fun h3_1_ h3_2_ => K (.exit 0) (buildS q0l0 [.i h0_0, .f h0_1, .f h0_2, .i h1_0, .f h1_1, .f h1_2, .i h2_0, .f h2_1, .f h2_2, .i h3_0, .f h3_1_, .f h3_2_])) := by
  intro m
  induction m with
  | zero => intros; rfl
  | succ m ih =>
    intro t23 h3_1 h3_2
    rw [loopN_round]
    refine (q0l1 N t22 t23 h0_0 h0_1 h0_2 h1_0 h1_1 h1_2 h2_0 h2_1 h2_2 h3_0 h3_1 h3_2 _ K).trans ?_
    simp only [ih]
    rfl
def q0l3 (α : Type) (N : Nat) : Env α := (q0kx α N).addLoop2 162 6 (loopSum2 ((q0kx α N).ann 162 6) 1 q0kz (fun l K => match l with
    | [.i t22, .i t23, .i h0_0, .f h0_1, .f h0_2, .i h1_0, .f h1_1, .f h1_2, .i h2_0, .f h2_1, .f h2_2, .i h3_0, .f h3_1, .f h3_2] => q04k none N t22 h0_0 h0_1 h0_2 h1_0 h1_1 h1_2 h2_0 h2_1 h2_2 h3_0 N t23 h3_1 h3_2 (fun h3_1_ h3_2_ => K (.exit 0) (buildS q0l0 [.i h0_0, .f h0_1, .f h0_2, .i h1_0, .f h1_1, .f h1_2, .i h2_0, .f h2_1, .f h2_2, .i h3_0, .f h3_1_, .f h3_2_]))
    | _ => none) ((q0kx α N).ls 162 6))
theorem q0l4 {α : Type} (N : Nat) : EnvOk Try.prog (q0l3 α N) := (q0ky N).addLoop2 Try.func162 (by kernel_rfl) (loopSum_ok q05l q05m (q0ky N) Try.func162 (by kernel_rfl) (d := 1) (ro := 1) fun l K r h => by
  split at h
  · exact (q0l2 N _ _ _ _ _ _ _ _ _ _ _ K N _ _ _).trans h
  · cases h)
def q0l5 : SPat := ⟨[.undef, .func 163 [.ptr ⟨⟨0, 0⟩, 0, 0, 1⟩], .undef, .ptr ⟨⟨1, 0⟩, 0, 0, 1⟩, .undef, .undef, .ptr ⟨⟨2, 0⟩, 0, 0, 1⟩, .ptr ⟨⟨3, 0⟩, 0, 0, 1⟩, .ptr ⟨⟨3, 0⟩, 1, 0, 8⟩, .ptr ⟨⟨3, 0⟩, 2, 0, 8⟩, .undef, .undef, .undef, .undef, .undef, .undef, .undef, .undef, .undef, .undef, .undef, .undef, .int .i64, .int .i64] ++ List.replicate 38 .undef, [[.vals [.int .i64], .ints .u8 8, .ints .u8 8], [.vals [.int .i64], .ints .u8 8, .ints .u8 8], [.vals [.int .i64], .ints .u8 8, .ints .u8 8], [.vals [.int .i64], .ints .u8 8, .ints .u8 8]]⟩
def q0l6 : SPat := ⟨[.undef, .undef, .undef, .undef, .undef, .undef, .ptr ⟨⟨2, 0⟩, 0, 0, 1⟩, .ptr ⟨⟨3, 0⟩, 0, 0, 1⟩] ++ List.replicate 54 .undef, [[.vals [.int .i64], .ints .u8 8, .ints .u8 8], [.vals [.int .i64], .ints .u8 8, .ints .u8 8], [.vals [.int .i64], .ints .u8 8, .ints .u8 8], [.vals [.int .i64], .ints .u8 8, .ints .u8 8]]⟩
theorem q0l7 {α : Type} (N : Nat) (t22 t23 h0_0 : Int) (h0_1 h0_2 : NI) (h1_0 : Int) (h1_1 h1_2 : NI) (h2_0 : Int) (h2_1 h2_2 : NI) (h3_0 : Int) (h3_1 h3_2 : NI) (kn : St -> Option α) (K : AExit -> St -> Option α) :
    roundK Try.prog (q0l3 α N) 1 1 162 Try.f162 6 4 (buildS q0l5 [.i t22, .i t23, .i h0_0, .f h0_1, .f h0_2, .i h1_0, .f h1_1, .f h1_2, .i h2_0, .f h2_1, .f h2_2, .i h3_0, .f h3_1, .f h3_2]) kn K = q04l none N t22 h0_0 h0_1 h0_2 h1_0 h1_1 h1_2 h2_0 h2_1 h2_2 h3_0 t23 h3_1 h3_2 (fun t23 h3_1 h3_2 => kn (buildS q0l5 [.i t22, .i t23, .i h0_0, .f h0_1, .f h0_2, .i h1_0, .f h1_1, .f h1_2, .i h2_0, .f h2_1, .f h2_2, .i h3_0, .f h3_1, .f h3_2])) (fun h3_1_ h3_2_ => K (.exit 0) (buildS q0l6 [.i h0_0, .f h0_1, .f h0_2, .i h1_0, .f h1_1, .f h1_2, .i h2_0, .f h2_1, .f h2_2, .i h3_0, .f h3_1_, .f h3_2_])) := by kernel_rfl
theorem q0l8 {α : Type} (N : Nat) (t22 h0_0 : Int) (h0_1 h0_2 : NI) (h1_0 : Int) (h1_1 h1_2 : NI) (h2_0 : Int) (h2_1 h2_2 : NI) (h3_0 : Int) (K : AExit -> St -> Option α) : ∀ (m : Nat) (t23 : Int) (h3_1 h3_2 : NI),
    loopN (trimSt ((q0l3 α N).ann 162 6).head ((q0l3 α N).ann 162 6).grow 4) (bodyK Try.prog (q0l3 α N) 1 1 162 Try.f162 6) m (buildS q0l5 [.i t22, .i t23, .i h0_0, .f h0_1, .f h0_2, .i h1_0, .f h1_1, .f h1_2, .i h2_0, .f h2_1, .f h2_2, .i h3_0, .f h3_1, .f h3_2]) (leaveLoop ((q0l3 α N).ann 162 6) 4 K) = q04m none N t22 h0_0 h0_1 h0_2 h1_0 h1_1 h1_2 h2_0 h2_1 h2_2 h3_0 m t23 h3_1 h3_2 (fun h3_1_ h3_2_ => K (.exit 0) (buildS q0l6 [.i h0_0, .f h0_1, .f h0_2, .i h1_0, .f h1_1, .f h1_2, .i h2_0, .f h2_1, .f h2_2, .i h3_0, .f h3_1_, .f h3_2_])) := by
  intro m
  induction m with
  | zero => intros; rfl
  | succ m ih =>
    intro t23 h3_1 h3_2
    rw [loopN_round]
    refine (q0l7 N t22 t23 h0_0 h0_1 h0_2 h1_0 h1_1 h1_2 h2_0 h2_1 h2_2 h3_0 h3_1 h3_2 _ K).trans ?_
    simp only [ih]
    rfl
def q0l9 (α : Type) (N : Nat) : Env α := (q0l3 α N).addLoop2 162 6 (loopSum2 ((q0l3 α N).ann 162 6) 1 q0l5 (fun l K => match l with
    | [.i t22, .i t23, .i h0_0, .f h0_1, .f h0_2, .i h1_0, .f h1_1, .f h1_2, .i h2_0, .f h2_1, .f h2_2, .i h3_0, .f h3_1, .f h3_2] => q04m none N t22 h0_0 h0_1 h0_2 h1_0 h1_1 h1_2 h2_0 h2_1 h2_2 h3_0 N t23 h3_1 h3_2 (fun h3_1_ h3_2_ => K (.exit 0) (buildS q0l6 [.i h0_0, .f h0_1, .f h0_2, .i h1_0, .f h1_1, .f h1_2, .i h2_0, .f h2_1, .f h2_2, .i h3_0, .f h3_1_, .f h3_2_]))
    | _ => none) ((q0l3 α N).ls 162 6))
theorem q0la {α : Type} (N : Nat) : EnvOk Try.prog (q0l9 α N) := (q0l4 N).addLoop2 Try.func162 (by kernel_rfl) (loopSum_ok q05l q05m (q0l4 N) Try.func162 (by kernel_rfl) (d := 1) (ro := 1) fun l K r h => by
  split at h
  · exact (q0l8 N _ _ _ _ _ _ _ _ _ _ _ K N _ _ _).trans h
  · cases h)
def q0lb : SPat := ⟨[.agg [.vals [.int .i64], .ints .u8 8, .ints .u8 8], .func 163 [.ptr ⟨⟨0, 0⟩, 0, 0, 1⟩], .bool], [[.vals [.int .i64], .ints .u8 8, .ints .u8 8]]⟩
def q0lc : SPat := ⟨[.agg [.vals [.int .i64], .ints .u8 8, .ints .u8 8]], [[.vals [.int .i64], .ints .u8 8, .ints .u8 8]]⟩
theorem q0ld {α : Type} (N : Nat) (g_0 : Int) (g_1 g_2 : NI) (exchanged : Bool) (h0_0 : Int) (h0_1 h0_2 : NI) (K : AV -> Heap -> Option α) :
    callK Try.prog (q0l9 α N) 1 162 1 (buildS q0lb [.i g_0, .f g_1, .f g_2, .b exchanged, .i h0_0, .f h0_1, .f h0_2]).t (buildS q0lb [.i g_0, .f g_1, .f g_2, .b exchanged, .i h0_0, .f h0_1, .f h0_2]).h K = q04n none N g_0 g_1 g_2 exchanged h0_0 h0_1 h0_2 (fun r_1_ r_2_ => retK (buildS q0lc [.i g_0, .f r_1_, .f r_2_, .i h0_0, .f h0_1, .f h0_2]) K) := by kernel_rfl
def q0le (α : Type) (N : Nat) : Env α := (q0l9 α N).addFun 162 true 1 q0lb (fun l K => match l with
    | [.i g_0, .f g_1, .f g_2, .b exchanged, .i h0_0, .f h0_1, .f h0_2] => q04n none N g_0 g_1 g_2 exchanged h0_0 h0_1 h0_2 (fun r_1_ r_2_ => retK (buildS q0lc [.i g_0, .f r_1_, .f r_2_, .i h0_0, .f h0_1, .f h0_2]) K)
    | _ => none)
theorem q0lf {α : Type} (N : Nat) : EnvOk Try.prog (q0le α N) := (q0la N).addFun q05l q05m (d := 1) fun l K r h => by
  split at h
  · exact (q0ld N _ _ _ _ _ _ _ K).trans h
  · cases h
def q0lg : SPat := ⟨[.agg [.vals [.int .i64], .ints .u8 8, .ints .u8 8]], []⟩
def q0lh : SPat := ⟨[.agg [.vals [.int .i64], .ints .u8 8, .ints .u8 8]], []⟩
theorem q0li {α : Type} (N : Nat) (g_0 : Int) (g_1 g_2 : NI) (K : AV -> Heap -> Option α) :
    callK Try.prog (q0le α N) 1 161 0 (buildS q0lg [.i g_0, .f g_1, .f g_2]).t (buildS q0lg [.i g_0, .f g_1, .f g_2]).h K = q04o none N g_0 g_1 g_2 (fun r_1_ r_2_ => retK (buildS q0lh [.i g_0, .f r_1_, .f r_2_]) K) := by kernel_rfl
def q0lj (α : Type) (N : Nat) : Env α := (q0le α N).addFun 161 true 0 q0lg (fun l K => match l with
    | [.i g_0, .f g_1, .f g_2] => q04o none N g_0 g_1 g_2 (fun r_1_ r_2_ => retK (buildS q0lh [.i g_0, .f r_1_, .f r_2_]) K)
    | _ => none)
theorem q0lk {α : Type} (N : Nat) : EnvOk Try.prog (q0lj α N) := (q0lf N).addFun q05l q05m (d := 1) fun l K r h => by
  split at h
  · exact (q0li N _ _ _ K).trans h
  · cases h
def q0ll : SPat := ⟨[.agg [.vals [.int .i64], .ints .u8 8, .ints .u8 8], .func 161 []], []⟩
def q0lm : SPat := ⟨[.tuple [.agg [.vals [.int .i64], .ints .u8 8, .ints .u8 8], .int .i64]], []⟩
theorem q0ln {α : Type} (N : Nat) (g_0 : Int) (g_1 g_2 : NI) (K : AV -> Heap -> Option α) :
    callK Try.prog (q0lj α N) 1 111 0 (buildS q0ll [.i g_0, .f g_1, .f g_2]).t (buildS q0ll [.i g_0, .f g_1, .f g_2]).h K = q04p none N g_0 g_1 g_2 (fun r_0_0_ r_0_1_ r_0_2_ r_1_ => retK (buildS q0lm [.i r_0_0_, .f r_0_1_, .f r_0_2_, .i r_1_]) K) := by kernel_rfl
def q0lo (α : Type) (N : Nat) : Env α := (q0lj α N).addFun 111 true 0 q0ll (fun l K => match l with
    | [.i g_0, .f g_1, .f g_2] => q04p none N g_0 g_1 g_2 (fun r_0_0_ r_0_1_ r_0_2_ r_1_ => retK (buildS q0lm [.i r_0_0_, .f r_0_1_, .f r_0_2_, .i r_1_]) K)
    | _ => none)
theorem q0lp {α : Type} (N : Nat) : EnvOk Try.prog (q0lo α N) := (q0lk N).addFun q05l q05m (d := 1) fun l K r h => by
  split at h
  · exact (q0ln N _ _ _ K).trans h
  · cases h
def q0lq : SPat := ⟨[.agg [.vals [.int .i64], .ints .u8 8, .ints .u8 8]], []⟩
def q0lr : SPat := ⟨[.tuple [.agg [.vals [.int .i64], .ints .u8 8, .ints .u8 8], .int .i64]], []⟩
theorem q0ls {α : Type} (N : Nat) (g_0 : Int) (g_1 g_2 : NI) (K : AV -> Heap -> Option α) :
    callK Try.prog (q0lo α N) 1 67 0 (buildS q0lq [.i g_0, .f g_1, .f g_2]).t (buildS q0lq [.i g_0, .f g_1, .f g_2]).h K = q04q none N g_0 g_1 g_2 (fun r_0_0_ r_0_1_ r_0_2_ r_1_ => retK (buildS q0lr [.i r_0_0_, .f r_0_1_, .f r_0_2_, .i r_1_]) K) := by kernel_rfl
def q0lt (α : Type) (N : Nat) : Env α := (q0lo α N).addFun 67 true 0 q0lq (fun l K => match l with
    | [.i g_0, .f g_1, .f g_2] => q04q none N g_0 g_1 g_2 (fun r_0_0_ r_0_1_ r_0_2_ r_1_ => retK (buildS q0lr [.i r_0_0_, .f r_0_1_, .f r_0_2_, .i r_1_]) K)
    | _ => none)
theorem q0lu {α : Type} (N : Nat) : EnvOk Try.prog (q0lt α N) := (q0lp N).addFun q05l q05m (d := 1) fun l K r h => by
  split at h
  · exact (q0ls N _ _ _ K).trans h
  · cases h
def q0lv : SPat := ⟨[.undef, .ptr ⟨⟨0, 0⟩, 0, 0, 1⟩, .undef, .undef, .ptr ⟨⟨1, 0⟩, 0, 0, 8⟩, .int .i64, .sliceV 2 0 0 3 false, .sliceV 4 0 0 1 false, .int .i64, .int .i64] ++ List.replicate 64 .undef, [[.vals [.int .i64], .ints .u8 8, .ints .u8 8], [.ints .i64 8], [.vec .i64], [.pool .i64], [.hdr 3]]⟩
def q0lw : SPat := ⟨[.undef, .ptr ⟨⟨0, 0⟩, 0, 0, 1⟩, .undef, .undef, .ptr ⟨⟨1, 0⟩, 0, 0, 8⟩, .int .i64, .sliceV 2 0 0 3 false, .sliceV 4 0 0 1 false, .int .i64, .int .i64] ++ List.replicate 64 .undef, [[.vals [.int .i64], .ints .u8 8, .ints .u8 8], [.ints .i64 8], [.vec .i64], [.pool .i64], [.hdr 3]]⟩
theorem q0lx {α : Type} (N : Nat) (t5 : Int) (t6_n t6_l t6_c t7_n t7_l t7_c : Nat) (t8 t9 h0_0 : Int) (h0_1 h0_2 h1 : NI) (h2 : List Int) (h3 : List (List Int)) (h4 : List (Nat × Nat)) (kn : St -> Option α) (K : AExit -> St -> Option α) :
    roundK Try.prog (q0lt α N) 1 0 66 Try.f66 9 5 (buildS q0lv [.i t5, .n t6_n, .n t6_l, .n t6_c, .n t7_n, .n t7_l, .n t7_c, .i t8, .i t9, .i h0_0, .f h0_1, .f h0_2, .f h1, .l h2, .r h3, .p h4]) kn K = q04r none t5 t6_n t6_l t6_c t7_n t7_l t7_c t8 h0_0 h0_1 h0_2 h1 h2 h3 h4 t9 (fun t9 => kn (buildS q0lv [.i t5, .n t6_n, .n t6_l, .n t6_c, .n t7_n, .n t7_l, .n t7_c, .i t8, .i t9, .i h0_0, .f h0_1, .f h0_2, .f h1, .l h2, .r h3, .p h4])) (fun t9_ => K (.exit 2) (buildS q0lw [.i t5, .n t6_n, .n t6_l, .n t6_c, .n t7_n, .n t7_l, .n t7_c, .i t8, .i t9_, .i h0_0, .f h0_1, .f h0_2, .f h1, .l h2, .r h3, .p h4])) := by kernel_rfl
theorem q0ly {α : Type} (N : Nat) (t5 : Int) (t6_n t6_l t6_c t7_n t7_l t7_c : Nat) (t8 h0_0 : Int) (h0_1 h0_2 h1 : NI) (h2 : List Int) (h3 : List (List Int)) (h4 : List (Nat × Nat)) (K : AExit -> St -> Option α) : ∀ (m : Nat) (t9 : Int),
    loopN (trimSt ((q0lt α N).ann 66 9).head ((q0lt α N).ann 66 9).grow 5) (bodyK Try.prog (q0lt α N) 1 0 66 Try.f66 9) m (buildS q0lv [.i t5, .n t6_n, .n t6_l, .n t6_c, .n t7_n, .n t7_l, .n t7_c, .i t8, .i t9, .i h0_0, .f h0_1, .f h0_2, .f h1, .l h2, .r h3, .p h4]) (leaveLoop ((q0lt α N).ann 66 9) 5 K) = q04s none t5 t6_n t6_l t6_c t7_n t7_l t7_c t8 h0_0 h0_1 h0_2 h1 h2 h3 h4 m t9 (fun t9_ => K (.exit 2) (buildS q0lw [.i t5, .n t6_n, .n t6_l, .n t6_c, .n t7_n, .n t7_l, .n t7_c, .i t8, .i t9_, .i h0_0, .f h0_1, .f h0_2, .f h1, .l h2, .r h3, .p h4])) := by
  intro m
  induction m with
  | zero => intros; rfl
  | succ m ih =>
    intro t9
    rw [loopN_round]
    refine (q0lx N t5 t6_n t6_l t6_c t7_n t7_l t7_c t8 t9 h0_0 h0_1 h0_2 h1 h2 h3 h4 _ K).trans ?_
    simp only [ih]
    rfl
def q0lz (α : Type) (N : Nat) : Env α := (q0lt α N).addLoop2 66 9 (loopSum2 ((q0lt α N).ann 66 9) 0 q0lv (fun l K => match l with
    | [.i t5, .n t6_n, .n t6_l, .n t6_c, .n t7_n, .n t7_l, .n t7_c, .i t8, .i t9, .i h0_0, .f h0_1, .f h0_2, .f h1, .l h2, .r h3, .p h4] => q04s none t5 t6_n t6_l t6_c t7_n t7_l t7_c t8 h0_0 h0_1 h0_2 h1 h2 h3 h4 N t9 (fun t9_ => K (.exit 2) (buildS q0lw [.i t5, .n t6_n, .n t6_l, .n t6_c, .n t7_n, .n t7_l, .n t7_c, .i t8, .i t9_, .i h0_0, .f h0_1, .f h0_2, .f h1, .l h2, .r h3, .p h4]))
    | _ => none) ((q0lt α N).ls 66 9))
theorem q0m0 {α : Type} (N : Nat) : EnvOk Try.prog (q0lz α N) := (q0lu N).addLoop2 Try.func66 (by kernel_rfl) (loopSum_ok q05l q05m (q0lu N) Try.func66 (by kernel_rfl) (d := 1) (ro := 0) fun l K r h => by
  split at h
  · exact (q0ly N _ _ _ _ _ _ _ _ _ _ _ _ _ _ _ K N _).trans h
  · cases h)
def q0m1 : SPat := ⟨[.sliceV 0 0 0 1 false, .sliceV 1 0 0 3 false, .int .i64, .undef, .int .i64, .bool, .undef, .undef, .undef, .undef, .undef, .undef, .undef, .intC .i64 (-1), .int .i64] ++ List.replicate 30 .undef, [[.vec .i64], [.vec .i64]]⟩
def q0m2 : SPat := ⟨[.sliceV 0 0 0 1 false] ++ List.replicate 44 .undef, [[.vec .i64], [.vec .i64]]⟩
theorem q0m3 {α : Type} (N out_n out_l out_c list_n list_l list_c : Nat) (line to_ : Int) (vertical : Bool) (k : Int) (h0 h1 : List Int) (kn : St -> Option α) (K : AExit -> St -> Option α) :
    roundK Try.prog (q0lz α N) 1 0 160 Try.f160 5 2 (buildS q0m1 [.n out_n, .n out_l, .n out_c, .n list_n, .n list_l, .n list_c, .i line, .i to_, .b vertical, .i k, .l h0, .l h1]) kn K = q04t none N list_n list_l list_c line to_ vertical h1 out_n out_l out_c k h0 (fun out_n out_l out_c k h0 => kn (buildS q0m1 [.n out_n, .n out_l, .n out_c, .n list_n, .n list_l, .n list_c, .i line, .i to_, .b vertical, .i k, .l h0, .l h1])) (fun out_n_ out_l_ out_c_ h0_ => K (.exit 0) (buildS q0m2 [.n out_n_, .n out_l_, .n out_c_, .l h0_, .l h1])) := by kernel_rfl
theorem q0m4 {α : Type} (N list_n list_l list_c : Nat) (line to_ : Int) (vertical : Bool) (h1 : List Int) (K : AExit -> St -> Option α) : ∀ (m out_n out_l out_c : Nat) (k : Int) (h0 : List Int),
    loopN (trimSt ((q0lz α N).ann 160 5).head ((q0lz α N).ann 160 5).grow 2) (bodyK Try.prog (q0lz α N) 1 0 160 Try.f160 5) m (buildS q0m1 [.n out_n, .n out_l, .n out_c, .n list_n, .n list_l, .n list_c, .i line, .i to_, .b vertical, .i k, .l h0, .l h1]) (leaveLoop ((q0lz α N).ann 160 5) 2 K) = q04u none N list_n list_l list_c line to_ vertical h1 m out_n out_l out_c k h0 (fun out_n_ out_l_ out_c_ h0_ => K (.exit 0) (buildS q0m2 [.n out_n_, .n out_l_, .n out_c_, .l h0_, .l h1])) := by
  intro m
  induction m with
  | zero => intros; rfl
  | succ m ih =>
    intro out_n out_l out_c k h0
    rw [loopN_round]
    refine (q0m3 N out_n out_l out_c list_n list_l list_c line to_ vertical k h0 h1 _ K).trans ?_
    simp only [ih]
    rfl
def q0m5 (α : Type) (N : Nat) : Env α := (q0lz α N).addLoop2 160 5 (loopSum2 ((q0lz α N).ann 160 5) 0 q0m1 (fun l K => match l with
    | [.n out_n, .n out_l, .n out_c, .n list_n, .n list_l, .n list_c, .i line, .i to_, .b vertical, .i k, .l h0, .l h1] => q04u none N list_n list_l list_c line to_ vertical h1 N out_n out_l out_c k h0 (fun out_n_ out_l_ out_c_ h0_ => K (.exit 0) (buildS q0m2 [.n out_n_, .n out_l_, .n out_c_, .l h0_, .l h1]))
    | _ => none) ((q0lz α N).ls 160 5))
theorem q0m6 {α : Type} (N : Nat) : EnvOk Try.prog (q0m5 α N) := (q0m0 N).addLoop2 Try.func160 (by kernel_rfl) (loopSum_ok q05l q05m (q0m0 N) Try.func160 (by kernel_rfl) (d := 1) (ro := 0) fun l K r h => by
  split at h
  · exact (q0m4 N _ _ _ _ _ _ _ K N _ _ _ _ _).trans h
  · cases h)
def q0m7 : SPat := ⟨[.sliceV 0 0 0 1 false, .sliceV 1 0 0 3 false, .int .i64, .undef, .int .i64, .bool, .undef, .undef, .undef, .undef, .undef, .undef, .undef, .intC .i64 1, .int .i64] ++ List.replicate 30 .undef, [[.vec .i64], [.vec .i64]]⟩
def q0m8 : SPat := ⟨[.sliceV 0 0 0 1 false] ++ List.replicate 44 .undef, [[.vec .i64], [.vec .i64]]⟩
theorem q0m9 {α : Type} (N out_n out_l out_c list_n list_l list_c : Nat) (line to_ : Int) (vertical : Bool) (k : Int) (h0 h1 : List Int) (kn : St -> Option α) (K : AExit -> St -> Option α) :
    roundK Try.prog (q0m5 α N) 1 0 160 Try.f160 5 2 (buildS q0m7 [.n out_n, .n out_l, .n out_c, .n list_n, .n list_l, .n list_c, .i line, .i to_, .b vertical, .i k, .l h0, .l h1]) kn K = q04v none N list_n list_l list_c line to_ vertical h1 out_n out_l out_c k h0 (fun out_n out_l out_c k h0 => kn (buildS q0m7 [.n out_n, .n out_l, .n out_c, .n list_n, .n list_l, .n list_c, .i line, .i to_, .b vertical, .i k, .l h0, .l h1])) (fun out_n_ out_l_ out_c_ h0_ => K (.exit 0) (buildS q0m8 [.n out_n_, .n out_l_, .n out_c_, .l h0_, .l h1])) := by kernel_rfl
theorem q0ma {α : Type} (N list_n list_l list_c : Nat) (line to_ : Int) (vertical : Bool) (h1 : List Int) (K : AExit -> St -> Option α) : ∀ (m out_n out_l out_c : Nat) (k : Int) (h0 : List Int),
    loopN (trimSt ((q0m5 α N).ann 160 5).head ((q0m5 α N).ann 160 5).grow 2) (bodyK Try.prog (q0m5 α N) 1 0 160 Try.f160 5) m (buildS q0m7 [.n out_n, .n out_l, .n out_c, .n list_n, .n list_l, .n list_c, .i line, .i to_, .b vertical, .i k, .l h0, .l h1]) (leaveLoop ((q0m5 α N).ann 160 5) 2 K) = q04w none N list_n list_l list_c line to_ vertical h1 m out_n out_l out_c k h0 (fun out_n_ out_l_ out_c_ h0_ => K (.exit 0) (buildS q0m8 [.n out_n_, .n out_l_, .n out_c_, .l h0_, .l h1])) := by
  intro m
  induction m with
  | zero => intros; rfl
  | succ m ih =>
    intro out_n out_l out_c k h0
    rw [loopN_round]
    refine (q0m9 N out_n out_l out_c list_n list_l list_c line to_ vertical k h0 h1 _ K).trans ?_
    simp only [ih]
    rfl
def q0mb (α : Type) (N : Nat) : Env α := (q0m5 α N).addLoop2 160 5 (loopSum2 ((q0m5 α N).ann 160 5) 0 q0m7 (fun l K => match l with
    | [.n out_n, .n out_l, .n out_c, .n list_n, .n list_l, .n list_c, .i line, .i to_, .b vertical, .i k, .l h0, .l h1] => q04w none N list_n list_l list_c line to_ vertical h1 N out_n out_l out_c k h0 (fun out_n_ out_l_ out_c_ h0_ => K (.exit 0) (buildS q0m8 [.n out_n_, .n out_l_, .n out_c_, .l h0_, .l h1]))
    | _ => none) ((q0m5 α N).ls 160 5))
theorem q0mc {α : Type} (N : Nat) : EnvOk Try.prog (q0mb α N) := (q0m6 N).addLoop2 Try.func160 (by kernel_rfl) (loopSum_ok q05l q05m (q0m6 N) Try.func160 (by kernel_rfl) (d := 1) (ro := 0) fun l K r h => by
  split at h
  · exact (q0ma N _ _ _ _ _ _ _ K N _ _ _ _ _).trans h
  · cases h)
def q0md : SPat := ⟨[.sliceV 0 0 0 1 false, .sliceV 1 0 0 3 false, .int .i64, .int .i64, .int .i64, .bool], [[.vec .i64], [.vec .i64]]⟩
def q0me : SPat := ⟨[.sliceV 0 0 0 1 false], [[.vec .i64], [.vec .i64]]⟩
theorem q0mf {α : Type} (N out_n out_l out_c list_n list_l list_c : Nat) (line from_ to_ : Int) (vertical : Bool) (h0 h1 : List Int) (K : AV -> Heap -> Option α) :
    callK Try.prog (q0mb α N) 1 160 0 (buildS q0md [.n out_n, .n out_l, .n out_c, .n list_n, .n list_l, .n list_c, .i line, .i from_, .i to_, .b vertical, .l h0, .l h1]).t (buildS q0md [.n out_n, .n out_l, .n out_c, .n list_n, .n list_l, .n list_c, .i line, .i from_, .i to_, .b vertical, .l h0, .l h1]).h K = q04x none N out_n out_l out_c list_n list_l list_c line from_ to_ vertical h0 h1 (fun r_n_ r_l_ r_c_ h0_ => retK (buildS q0me [.n r_n_, .n r_l_, .n r_c_, .l h0_, .l h1]) K) := by kernel_rfl
def q0mg (α : Type) (N : Nat) : Env α := (q0mb α N).addFun 160 false 0 q0md (fun l K => match l with
    | [.n out_n, .n out_l, .n out_c, .n list_n, .n list_l, .n list_c, .i line, .i from_, .i to_, .b vertical, .l h0, .l h1] => q04x none N out_n out_l out_c list_n list_l list_c line from_ to_ vertical h0 h1 (fun r_n_ r_l_ r_c_ h0_ => retK (buildS q0me [.n r_n_, .n r_l_, .n r_c_, .l h0_, .l h1]) K)
    | _ => none)
theorem q0mh {α : Type} (N : Nat) : EnvOk Try.prog (q0mg α N) := (q0mc N).addFun q05l q05m (d := 1) fun l K r h => by
  split at h
  · exact (q0mf N _ _ _ _ _ _ _ _ _ _ _ _ K).trans h
  · cases h
def q0mi : SPat := ⟨[.undef, .ptr ⟨⟨0, 0⟩, 0, 0, 1⟩, .undef, .undef, .ptr ⟨⟨1, 0⟩, 0, 0, 8⟩, .int .i64, .sliceV 2 0 0 3 false, .sliceV 4 0 0 1 false, .int .i64, .int .i64, .sliceV 5 0 0 1 false, .int .i64] ++ List.replicate 62 .undef, [[.vals [.int .i64], .ints .u8 8, .ints .u8 8], [.ints .i64 8], [.vec .i64], [.pool .i64], [.hdr 3], [.vec .i64]]⟩
def q0mj : SPat := ⟨[.undef, .ptr ⟨⟨0, 0⟩, 0, 0, 1⟩, .undef, .undef, .ptr ⟨⟨1, 0⟩, 0, 0, 8⟩, .int .i64, .sliceV 2 0 0 3 false, .sliceV 4 0 0 1 false, .int .i64, .undef, .sliceV 5 0 0 1 false] ++ List.replicate 63 .undef, [[.vals [.int .i64], .ints .u8 8, .ints .u8 8], [.ints .i64 8], [.vec .i64], [.pool .i64], [.hdr 3], [.vec .i64]]⟩
theorem q0mk {α : Type} (N : Nat) (t5 : Int) (t6_n t6_l t6_c t7_n t7_l t7_c : Nat) (t8 t9 : Int) (t10_n t10_l t10_c : Nat) (t11 h0_0 : Int) (h0_1 h0_2 h1 : NI) (h2 : List Int) (h3 : List (List Int)) (h4 : List (Nat × Nat)) (h5 : List Int) (kn : St -> Option α) (K : AExit -> St -> Option α) :
    roundK Try.prog (q0mg α N) 1 0 66 Try.f66 12 6 (buildS q0mi [.i t5, .n t6_n, .n t6_l, .n t6_c, .n t7_n, .n t7_l, .n t7_c, .i t8, .i t9, .n t10_n, .n t10_l, .n t10_c, .i t11, .i h0_0, .f h0_1, .f h0_2, .f h1, .l h2, .r h3, .p h4, .l h5]) kn K = q04y none N t5 t6_n t6_l t6_c t7_n t7_l t7_c t8 t9 h0_0 h0_1 h0_2 h1 h2 h3 h4 t10_n t10_l t10_c t11 h5 (fun t10_n t10_l t10_c t11 h5 => kn (buildS q0mi [.i t5, .n t6_n, .n t6_l, .n t6_c, .n t7_n, .n t7_l, .n t7_c, .i t8, .i t9, .n t10_n, .n t10_l, .n t10_c, .i t11, .i h0_0, .f h0_1, .f h0_2, .f h1, .l h2, .r h3, .p h4, .l h5])) (fun t10_n_ t10_l_ t10_c_ h5_ => K (.exit 4) (buildS q0mj [.i t5, .n t6_n, .n t6_l, .n t6_c, .n t7_n, .n t7_l, .n t7_c, .i t8, .n t10_n_, .n t10_l_, .n t10_c_, .i h0_0, .f h0_1, .f h0_2, .f h1, .l h2, .r h3, .p h4, .l h5_])) := by kernel_rfl
theorem q0ml {α : Type} (N : Nat) (t5 : Int) (t6_n t6_l t6_c t7_n t7_l t7_c : Nat) (t8 t9 h0_0 : Int) (h0_1 h0_2 h1 : NI) (h2 : List Int) (h3 : List (List Int)) (h4 : List (Nat × Nat)) (K : AExit -> St -> Option α) : ∀ (m t10_n t10_l t10_c : Nat) (t11 : Int) (h5 : List Int),
    loopN (trimSt ((q0mg α N).ann 66 12).head ((q0mg α N).ann 66 12).grow 6) (bodyK Try.prog (q0mg α N) 1 0 66 Try.f66 12) m (buildS q0mi [.i t5, .n t6_n, .n t6_l, .n t6_c, .n t7_n, .n t7_l, .n t7_c, .i t8, .i t9, .n t10_n, .n t10_l, .n t10_c, .i t11, .i h0_0, .f h0_1, .f h0_2, .f h1, .l h2, .r h3, .p h4, .l h5]) (leaveLoop ((q0mg α N).ann 66 12) 6 K) = q04z none N t5 t6_n t6_l t6_c t7_n t7_l t7_c t8 t9 h0_0 h0_1 h0_2 h1 h2 h3 h4 m t10_n t10_l t10_c t11 h5 (fun t10_n_ t10_l_ t10_c_ h5_ => K (.exit 4) (buildS q0mj [.i t5, .n t6_n, .n t6_l, .n t6_c, .n t7_n, .n t7_l, .n t7_c, .i t8, .n t10_n_, .n t10_l_, .n t10_c_, .i h0_0, .f h0_1, .f h0_2, .f h1, .l h2, .r h3, .p h4, .l h5_])) := by
  intro m
  induction m with
  | zero => intros; rfl
  | succ m ih =>
    intro t10_n t10_l t10_c t11 h5
    rw [loopN_round]
    refine (q0mk N t5 t6_n t6_l t6_c t7_n t7_l t7_c t8 t9 t10_n t10_l t10_c t11 h0_0 h0_1 h0_2 h1 h2 h3 h4 h5 _ K).trans ?_
    simp only [ih]
    rfl
def q0mm (α : Type) (N : Nat) : Env α := (q0mg α N).addLoop2 66 12 (loopSum2 ((q0mg α N).ann 66 12) 0 q0mi (fun l K => match l with
    | [.i t5, .n t6_n, .n t6_l, .n t6_c, .n t7_n, .n t7_l, .n t7_c, .i t8, .i t9, .n t10_n, .n t10_l, .n t10_c, .i t11, .i h0_0, .f h0_1, .f h0_2, .f h1, .l h2, .r h3, .p h4, .l h5] => q04z none N t5 t6_n t6_l t6_c t7_n t7_l t7_c t8 t9 h0_0 h0_1 h0_2 h1 h2 h3 h4 N t10_n t10_l t10_c t11 h5 (fun t10_n_ t10_l_ t10_c_ h5_ => K (.exit 4) (buildS q0mj [.i t5, .n t6_n, .n t6_l, .n t6_c, .n t7_n, .n t7_l, .n t7_c, .i t8, .n t10_n_, .n t10_l_, .n t10_c_, .i h0_0, .f h0_1, .f h0_2, .f h1, .l h2, .r h3, .p h4, .l h5_]))
    | _ => none) ((q0mg α N).ls 66 12))
theorem q0mn {α : Type} (N : Nat) : EnvOk Try.prog (q0mm α N) := (q0mh N).addLoop2 Try.func66 (by kernel_rfl) (loopSum_ok q05l q05m (q0mh N) Try.func66 (by kernel_rfl) (d := 1) (ro := 0) fun l K r h => by
  split at h
  · exact (q0ml N _ _ _ _ _ _ _ _ _ _ _ _ _ _ _ _ K N _ _ _ _ _).trans h
  · cases h)
def q0mo : SPat := ⟨[.undef, .ptr ⟨⟨0, 0⟩, 0, 0, 1⟩, .undef, .undef, .ptr ⟨⟨1, 0⟩, 0, 0, 8⟩, .int .i64, .sliceV 2 0 0 3 false, .sliceV 4 0 0 1 false, .int .i64] ++ List.replicate 65 .undef, [[.vals [.int .i64], .ints .u8 8, .ints .u8 8], [.ints .i64 8], [.vec .i64], [.pool .i64], [.hdr 3]]⟩
def q0mp : SPat := ⟨[.undef, .undef, .undef, .undef, .undef, .undef, .undef, .sliceV 4 0 0 1 false] ++ List.replicate 66 .undef, [[.vals [.int .i64], .ints .u8 8, .ints .u8 8], [.ints .i64 8], [.vec .i64], [.pool .i64], [.hdr 3]]⟩
theorem q0mq {α : Type} (N : Nat) (t5 : Int) (t6_n t6_l t6_c t7_n t7_l t7_c : Nat) (t8 h0_0 : Int) (h0_1 h0_2 h1 : NI) (h2 : List Int) (h3 : List (List Int)) (h4 : List (Nat × Nat)) (kn : St -> Option α) (K : AExit -> St -> Option α) :
    roundK Try.prog (q0mm α N) 1 0 66 Try.f66 6 5 (buildS q0mo [.i t5, .n t6_n, .n t6_l, .n t6_c, .n t7_n, .n t7_l, .n t7_c, .i t8, .i h0_0, .f h0_1, .f h0_2, .f h1, .l h2, .r h3, .p h4]) kn K = q050 none N t5 t6_n t6_l t6_c h0_0 h0_1 h0_2 h1 h2 t7_n t7_l t7_c t8 h3 h4 (fun t7_n t7_l t7_c t8 h3 h4 => kn (buildS q0mo [.i t5, .n t6_n, .n t6_l, .n t6_c, .n t7_n, .n t7_l, .n t7_c, .i t8, .i h0_0, .f h0_1, .f h0_2, .f h1, .l h2, .r h3, .p h4])) (fun t7_n_ t7_l_ t7_c_ h3_ h4_ => K (.exit 0) (buildS q0mp [.n t7_n_, .n t7_l_, .n t7_c_, .i h0_0, .f h0_1, .f h0_2, .f h1, .l h2, .r h3_, .p h4_])) := by kernel_rfl
theorem q0mr {α : Type} (N : Nat) (t5 : Int) (t6_n t6_l t6_c : Nat) (h0_0 : Int) (h0_1 h0_2 h1 : NI) (h2 : List Int) (K : AExit -> St -> Option α) : ∀ (m t7_n t7_l t7_c : Nat) (t8 : Int) (h3 : List (List Int)) (h4 : List (Nat × Nat)),
    loopN (trimSt ((q0mm α N).ann 66 6).head ((q0mm α N).ann 66 6).grow 5) (bodyK Try.prog (q0mm α N) 1 0 66 Try.f66 6) m (buildS q0mo [.i t5, .n t6_n, .n t6_l, .n t6_c, .n t7_n, .n t7_l, .n t7_c, .i t8, .i h0_0, .f h0_1, .f h0_2, .f h1, .l h2, .r h3, .p h4]) (leaveLoop ((q0mm α N).ann 66 6) 5 K) = q051 none N t5 t6_n t6_l t6_c h0_0 h0_1 h0_2 h1 h2 m t7_n t7_l t7_c t8 h3 h4 (fun t7_n_ t7_l_ t7_c_ h3_ h4_ => K (.exit 0) (buildS q0mp [.n t7_n_, .n t7_l_, .n t7_c_, .i h0_0, .f h0_1, .f h0_2, .f h1, .l h2, .r h3_, .p h4_])) := by
  intro m
  induction m with
  | zero => intros; rfl
  | succ m ih =>
    intro t7_n t7_l t7_c t8 h3 h4
    rw [loopN_round]
    refine (q0mq N t5 t6_n t6_l t6_c t7_n t7_l t7_c t8 h0_0 h0_1 h0_2 h1 h2 h3 h4 _ K).trans ?_
    simp only [ih]
    rfl
def q0ms (α : Type) (N : Nat) : Env α := (q0mm α N).addLoop2 66 6 (loopSum2 ((q0mm α N).ann 66 6) 0 q0mo (fun l K => match l with
    | [.i t5, .n t6_n, .n t6_l, .n t6_c, .n t7_n, .n t7_l, .n t7_c, .i t8, .i h0_0, .f h0_1, .f h0_2, .f h1, .l h2, .r h3, .p h4] => q051 none N t5 t6_n t6_l t6_c h0_0 h0_1 h0_2 h1 h2 N t7_n t7_l t7_c t8 h3 h4 (fun t7_n_ t7_l_ t7_c_ h3_ h4_ => K (.exit 0) (buildS q0mp [.n t7_n_, .n t7_l_, .n t7_c_, .i h0_0, .f h0_1, .f h0_2, .f h1, .l h2, .r h3_, .p h4_]))
    | _ => none) ((q0mm α N).ls 66 6))
theorem q0mt {α : Type} (N : Nat) : EnvOk Try.prog (q0ms α N) := (q0mn N).addLoop2 Try.func66 (by kernel_rfl) (loopSum_ok q05l q05m (q0mn N) Try.func66 (by kernel_rfl) (d := 1) (ro := 0) fun l K r h => by
  split at h
  · exact (q0mr N _ _ _ _ _ _ _ _ _ K N _ _ _ _ _ _).trans h
  · cases h)
def q0mu : SPat := ⟨[.agg [.vals [.int .i64], .ints .u8 8, .ints .u8 8]], []⟩
def q0mv : SPat := ⟨[.tuple [.nils, .int .i64]], []⟩
def q0mw : SPat := ⟨[.tuple [.sliceV 0 0 0 1 false, .int .i64]], [[.hdr 1], [.pool .i64]]⟩
theorem q0mx {α : Type} (N : Nat) (g_0 : Int) (g_1 g_2 : NI) (K : AV -> Heap -> Option α) :
    callK Try.prog (q0ms α N) 1 66 0 (buildS q0mu [.i g_0, .f g_1, .f g_2]).t (buildS q0mu [.i g_0, .f g_1, .f g_2]).h K = q052 none N g_0 g_1 g_2 (fun r_1_ => retK (buildS q0mv [.i r_1_]) K) (fun r_0_n_ r_0_l_ r_0_c_ r_1_ h0_ h1_ => retK (buildS q0mw [.n r_0_n_, .n r_0_l_, .n r_0_c_, .i r_1_, .p h0_, .r h1_]) K) := by kernel_rfl
def q0my (α : Type) (N : Nat) : Env α := (q0ms α N).addFun 66 true 0 q0mu (fun l K => match l with
    | [.i g_0, .f g_1, .f g_2] => q052 none N g_0 g_1 g_2 (fun r_1_ => retK (buildS q0mv [.i r_1_]) K) (fun r_0_n_ r_0_l_ r_0_c_ r_1_ h0_ h1_ => retK (buildS q0mw [.n r_0_n_, .n r_0_l_, .n r_0_c_, .i r_1_, .p h0_, .r h1_]) K)
    | _ => none)
theorem q0mz {α : Type} (N : Nat) : EnvOk Try.prog (q0my α N) := (q0mt N).addFun q05l q05m (d := 1) fun l K r h => by
  split at h
  · exact (q0mx N _ _ _ K).trans h
  · cases h
def q0n0 : SPat := ⟨[.sliceV 0 0 0 1 false], [[.intsV .u8]]⟩
def q0n1 : SPat := ⟨[.bool], [[.intsV .u8]]⟩
theorem q0n2 {α : Type} (N code_n code_l code_c h0_n : Nat) (h0 : NI) (K : AV -> Heap -> Option α) :
    callK Try.prog (q0my α N) 1 16 1 (buildS q0n0 [.n code_n, .n code_l, .n code_c, .n h0_n, .f h0]).t (buildS q0n0 [.n code_n, .n code_l, .n code_c, .n h0_n, .f h0]).h K = w_big none N code_n code_l code_c h0_n h0 (fun r__ => retK (buildS q0n1 [.b r__, .n h0_n, .f h0]) K) := by kernel_rfl
def q0n3 (α : Type) (N : Nat) : Env α := (q0my α N).addFun 16 true 1 q0n0 (fun l K => match l with
    | [.n code_n, .n code_l, .n code_c, .n h0_n, .f h0] => w_big none N code_n code_l code_c h0_n h0 (fun r__ => retK (buildS q0n1 [.b r__, .n h0_n, .f h0]) K)
    | _ => none)
theorem q0n4 {α : Type} (N : Nat) : EnvOk Try.prog (q0n3 α N) := (q0mz N).addFun q05l q05m (d := 1) fun l K r h => by
  split at h
  · exact (q0n2 N _ _ _ _ _ K).trans h
  · cases h
def q0n5 (α : Type) (N : Nat) : Env α := (q0n3 α N).addAnn 104 3 { head := [0, 3, 4], grow := [], out := [3], ret := [2] }
theorem q0n6 {α : Type} (N : Nat) : EnvOk Try.prog (q0n5 α N) := (q0n4 N).addAnn
def q0n7 : SPat := ⟨[.sliceV 0 0 0 1 false, .undef, .undef, .ptr ⟨⟨1, 0⟩, 0, 0, 3⟩, .int .i64] ++ List.replicate 33 .undef, [[.intsV .u8], [.vals [.sliceV 0 0 0 1 false, .int .i64, .int .u64]]]⟩
def q0n8 : SPat := ⟨[.undef, .undef, .undef, .ptr ⟨⟨1, 0⟩, 0, 0, 3⟩] ++ List.replicate 34 .undef, [[.intsV .u8], [.vals [.sliceV 0 0 0 1 false, .int .i64, .int .u64]]]⟩
theorem q0n9 {α : Type} (N code_n code_l code_c : Nat) (i : Int) (h0_n : Nat) (h0 : NI) (h1_0_n h1_0_l h1_0_c : Nat) (h1_1 h1_2 : Int) (kn : St -> Option α) (K : AExit -> St -> Option α) :
    roundK Try.prog (q0n5 α N) 1 1 104 Try.f104 3 2 (buildS q0n7 [.n code_n, .n code_l, .n code_c, .i i, .n h0_n, .f h0, .n h1_0_n, .n h1_0_l, .n h1_0_c, .i h1_1, .i h1_2]) kn K = q029 none code_n code_l code_c h0_n h0 h1_0_n h1_0_l h1_0_c h1_1 i h1_2 (fun i h1_2 => kn (buildS q0n7 [.n code_n, .n code_l, .n code_c, .i i, .n h0_n, .f h0, .n h1_0_n, .n h1_0_l, .n h1_0_c, .i h1_1, .i h1_2])) (fun h1_2_ => K (.exit 0) (buildS q0n8 [.n h0_n, .f h0, .n h1_0_n, .n h1_0_l, .n h1_0_c, .i h1_1, .i h1_2_])) := by kernel_rfl
theorem q0na {α : Type} (N code_n code_l code_c h0_n : Nat) (h0 : NI) (h1_0_n h1_0_l h1_0_c : Nat) (h1_1 : Int) (K : AExit -> St -> Option α) : ∀ (m : Nat) (i h1_2 : Int),
    loopN (trimSt ((q0n5 α N).ann 104 3).head ((q0n5 α N).ann 104 3).grow 2) (bodyK Try.prog (q0n5 α N) 1 1 104 Try.f104 3) m (buildS q0n7 [.n code_n, .n code_l, .n code_c, .i i, .n h0_n, .f h0, .n h1_0_n, .n h1_0_l, .n h1_0_c, .i h1_1, .i h1_2]) (leaveLoop ((q0n5 α N).ann 104 3) 2 K) = q02a none code_n code_l code_c h0_n h0 h1_0_n h1_0_l h1_0_c h1_1 m i h1_2 (fun h1_2_ => K (.exit 0) (buildS q0n8 [.n h0_n, .f h0, .n h1_0_n, .n h1_0_l, .n h1_0_c, .i h1_1, .i h1_2_])) := by
  intro m
  induction m with
  | zero => intros; rfl
  | succ m ih =>
    intro i h1_2
    rw [loopN_round]
    refine (q0n9 N code_n code_l code_c i h0_n h0 h1_0_n h1_0_l h1_0_c h1_1 h1_2 _ K).trans ?_
    simp only [ih]
    rfl
def q0nb (α : Type) (N : Nat) : Env α := (q0n5 α N).addLoop2 104 3 (loopSum2 ((q0n5 α N).ann 104 3) 1 q0n7 (fun l K => match l with
    | [.n code_n, .n code_l, .n code_c, .i i, .n h0_n, .f h0, .n h1_0_n, .n h1_0_l, .n h1_0_c, .i h1_1, .i h1_2] => q02a none code_n code_l code_c h0_n h0 h1_0_n h1_0_l h1_0_c h1_1 N i h1_2 (fun h1_2_ => K (.exit 0) (buildS q0n8 [.n h0_n, .f h0, .n h1_0_n, .n h1_0_l, .n h1_0_c, .i h1_1, .i h1_2_]))
    | _ => none) ((q0n5 α N).ls 104 3))
theorem q0nc {α : Type} (N : Nat) : EnvOk Try.prog (q0nb α N) := (q0n6 N).addLoop2 Try.func104 (by kernel_rfl) (loopSum_ok q05l q05m (q0n6 N) Try.func104 (by kernel_rfl) (d := 1) (ro := 1) fun l K r h => by
  split at h
  · exact (q0na N _ _ _ _ _ _ _ _ _ K N _ _).trans h
  · cases h)
def q0nd : SPat := ⟨[.sliceV 0 0 0 1 false], [[.intsV .u8]]⟩
def q0ne : SPat := ⟨[.ptr ⟨⟨1, 0⟩, 0, 0, 3⟩], [[.intsV .u8], [.vals [.sliceV 0 0 0 1 false, .int .i64, .int .u64]]]⟩
theorem q0nf {α : Type} (N code_n code_l code_c h0_n : Nat) (h0 : NI) (K : AV -> Heap -> Option α) :
    callK Try.prog (q0nb α N) 1 104 1 (buildS q0nd [.n code_n, .n code_l, .n code_c, .n h0_n, .f h0]).t (buildS q0nd [.n code_n, .n code_l, .n code_c, .n h0_n, .f h0]).h K = q02b none N code_n code_l code_c h0_n h0 (fun h1_1_ h1_2_ => retK (buildS q0ne [.n h0_n, .f h0, .n code_n, .n code_l, .n code_c, .i h1_1_, .i h1_2_]) K) := by kernel_rfl
def q0ng (α : Type) (N : Nat) : Env α := (q0nb α N).addFun 104 true 1 q0nd (fun l K => match l with
    | [.n code_n, .n code_l, .n code_c, .n h0_n, .f h0] => q02b none N code_n code_l code_c h0_n h0 (fun h1_1_ h1_2_ => retK (buildS q0ne [.n h0_n, .f h0, .n code_n, .n code_l, .n code_c, .i h1_1_, .i h1_2_]) K)
    | _ => none)
theorem q0nh {α : Type} (N : Nat) : EnvOk Try.prog (q0ng α N) := (q0nc N).addFun q05l q05m (d := 1) fun l K r h => by
  split at h
  · exact (q0nf N _ _ _ _ _ K).trans h
  · cases h
def q0ni : SPat := ⟨[.ptr ⟨⟨1, 0⟩, 0, 0, 3⟩, .int .i64], [[.intsV .u8], [.vals [.sliceV 0 0 0 1 false, .int .i64, .int .u64]]]⟩
def q0nj : SPat := ⟨[.int .i64], [[.intsV .u8], [.vals [.sliceV 0 0 0 1 false, .int .i64, .int .u64]]]⟩
theorem q0nk {α : Type} (N : Nat) (n : Int) (h0_n : Nat) (h0 : NI) (h1_0_n h1_0_l h1_0_c : Nat) (h1_1 h1_2 : Int) (K : AV -> Heap -> Option α) :
    callK Try.prog (q0ng α N) 1 114 1 (buildS q0ni [.i n, .n h0_n, .f h0, .n h1_0_n, .n h1_0_l, .n h1_0_c, .i h1_1, .i h1_2]).t (buildS q0ni [.i n, .n h0_n, .f h0, .n h1_0_n, .n h1_0_l, .n h1_0_c, .i h1_1, .i h1_2]).h K = q02c none N n h0_n h0 h1_0_n h1_0_l h1_0_c h1_1 h1_2 (fun r__ h1_1_ h1_2_ => retK (buildS q0nj [.i r__, .n h0_n, .f h0, .n h1_0_n, .n h1_0_l, .n h1_0_c, .i h1_1_, .i h1_2_]) K) := by kernel_rfl
def q0nl (α : Type) (N : Nat) : Env α := (q0ng α N).addFun 114 false 1 q0ni (fun l K => match l with
    | [.i n, .n h0_n, .f h0, .n h1_0_n, .n h1_0_l, .n h1_0_c, .i h1_1, .i h1_2] => q02c none N n h0_n h0 h1_0_n h1_0_l h1_0_c h1_1 h1_2 (fun r__ h1_1_ h1_2_ => retK (buildS q0nj [.i r__, .n h0_n, .f h0, .n h1_0_n, .n h1_0_l, .n h1_0_c, .i h1_1_, .i h1_2_]) K)
    | _ => none)
theorem q0nm {α : Type} (N : Nat) : EnvOk Try.prog (q0nl α N) := (q0nh N).addFun q05l q05m (d := 1) fun l K r h => by
  split at h
  · exact (q0nk N _ _ _ _ _ _ _ _ K).trans h
  · cases h
def q0nn : SPat := ⟨[.ptr ⟨⟨1, 0⟩, 0, 0, 3⟩, .slice ⟨⟨2, 0⟩, 0, 0, 3⟩ 3 3 1 true], [[.intsV .u8], [.vals [.sliceV 0 0 0 1 false, .int .i64, .int .u64]], [.vec .i64]]⟩
def q0no : SPat := ⟨[.int .i64], [[.intsV .u8], [.vals [.sliceV 0 0 0 1 false, .int .i64, .int .u64]], [.vec .i64]]⟩
theorem q0np {α : Type} (N h0_n : Nat) (h0 : NI) (h1_0_n h1_0_l h1_0_c : Nat) (h1_1 h1_2 : Int) (h2 : List Int) (K : AV -> Heap -> Option α) :
    callK Try.prog (q0nl α N) 1 115 1 (buildS q0nn [.n h0_n, .f h0, .n h1_0_n, .n h1_0_l, .n h1_0_c, .i h1_1, .i h1_2, .l h2]).t (buildS q0nn [.n h0_n, .f h0, .n h1_0_n, .n h1_0_l, .n h1_0_c, .i h1_1, .i h1_2, .l h2]).h K = q02d none N h0_n h0 h1_0_n h1_0_l h1_0_c h1_1 h1_2 h2 (fun r__ h1_1_ h1_2_ => retK (buildS q0no [.i r__, .n h0_n, .f h0, .n h1_0_n, .n h1_0_l, .n h1_0_c, .i h1_1_, .i h1_2_, .l h2]) K) := by kernel_rfl
def q0nq (α : Type) (N : Nat) : Env α := (q0nl α N).addFun 115 false 1 q0nn (fun l K => match l with
    | [.n h0_n, .f h0, .n h1_0_n, .n h1_0_l, .n h1_0_c, .i h1_1, .i h1_2, .l h2] => q02d none N h0_n h0 h1_0_n h1_0_l h1_0_c h1_1 h1_2 h2 (fun r__ h1_1_ h1_2_ => retK (buildS q0no [.i r__, .n h0_n, .f h0, .n h1_0_n, .n h1_0_l, .n h1_0_c, .i h1_1_, .i h1_2_, .l h2]) K)
    | _ => none)
theorem q0nr {α : Type} (N : Nat) : EnvOk Try.prog (q0nq α N) := (q0nm N).addFun q05l q05m (d := 1) fun l K r h => by
  split at h
  · exact (q0np N _ _ _ _ _ _ _ _ K).trans h
  · cases h
def q0ns (α : Type) (N : Nat) : Env α := (q0nq α N).addAnn 197 3 { head := [0, 1, 4, 5, 6], grow := [], out := [0, 1, 4, 5], ret := [4] }
theorem q0nt {α : Type} (N : Nat) : EnvOk Try.prog (q0ns α N) := (q0nr N).addAnn
def q0nu : SPat := ⟨[.ptr ⟨⟨1, 0⟩, 0, 0, 3⟩, .int .i64, .undef, .undef, .ptr ⟨⟨2, 0⟩, 0, 0, 8⟩, .ptr ⟨⟨3, 0⟩, 0, 0, 8⟩, .int .i64] ++ List.replicate 35 .undef, [[.intsV .u8], [.vals [.sliceV 0 0 0 1 false, .int .i64, .int .u64]], [.ints .u8 8], [.ints .u8 8]]⟩
def q0nv : SPat := ⟨[.ptr ⟨⟨1, 0⟩, 0, 0, 3⟩, .int .i64, .undef, .undef, .ptr ⟨⟨2, 0⟩, 0, 0, 8⟩, .ptr ⟨⟨3, 0⟩, 0, 0, 8⟩] ++ List.replicate 36 .undef, [[.intsV .u8], [.vals [.sliceV 0 0 0 1 false, .int .i64, .int .u64]], [.ints .u8 8], [.ints .u8 8]]⟩
theorem q0nw {α : Type} (N : Nat) (n i : Int) (h0_n : Nat) (h0 : NI) (h1_0_n h1_0_l h1_0_c : Nat) (h1_1 h1_2 : Int) (h2 h3 : NI) (kn : St -> Option α) (K : AExit -> St -> Option α) :
    roundK Try.prog (q0ns α N) 1 1 197 Try.f197 3 4 (buildS q0nu [.i n, .i i, .n h0_n, .f h0, .n h1_0_n, .n h1_0_l, .n h1_0_c, .i h1_1, .i h1_2, .f h2, .f h3]) kn K = q02e none n h0_n h0 h1_0_n h1_0_l h1_0_c h1_1 h1_2 h2 i h3 (fun i h3 => kn (buildS q0nu [.i n, .i i, .n h0_n, .f h0, .n h1_0_n, .n h1_0_l, .n h1_0_c, .i h1_1, .i h1_2, .f h2, .f h3])) (fun h3_ => K (.exit 0) (buildS q0nv [.i n, .n h0_n, .f h0, .n h1_0_n, .n h1_0_l, .n h1_0_c, .i h1_1, .i h1_2, .f h2, .f h3_])) := by kernel_rfl
theorem q0nx {α : Type} (N : Nat) (n : Int) (h0_n : Nat) (h0 : NI) (h1_0_n h1_0_l h1_0_c : Nat) (h1_1 h1_2 : Int) (h2 : NI) (K : AExit -> St -> Option α) : ∀ (m : Nat) (i : Int) (h3 : NI),
    loopN (trimSt ((q0ns α N).ann 197 3).head ((q0ns α N).ann 197 3).grow 4) (bodyK Try.prog (q0ns α N) 1 1 197 Try.f197 3) m (buildS q0nu [.i n, .i i, .n h0_n, .f h0, .n h1_0_n, .n h1_0_l, .n h1_0_c, .i h1_1, .i h1_2, .f h2, .f h3]) (leaveLoop ((q0ns α N).ann 197 3) 4 K) = q02f none n h0_n h0 h1_0_n h1_0_l h1_0_c h1_1 h1_2 h2 m i h3 (fun h3_ => K (.exit 0) (buildS q0nv [.i n, .n h0_n, .f h0, .n h1_0_n, .n h1_0_l, .n h1_0_c, .i h1_1, .i h1_2, .f h2, .f h3_])) := by
  intro m
  induction m with
  | zero => intros; rfl
  | succ m ih =>
    intro i h3
    rw [loopN_round]
    refine (q0nw N n i h0_n h0 h1_0_n h1_0_l h1_0_c h1_1 h1_2 h2 h3 _ K).trans ?_
    simp only [ih]
    rfl
def q0ny (α : Type) (N : Nat) : Env α := (q0ns α N).addLoop2 197 3 (loopSum2 ((q0ns α N).ann 197 3) 1 q0nu (fun l K => match l with
    | [.i n, .i i, .n h0_n, .f h0, .n h1_0_n, .n h1_0_l, .n h1_0_c, .i h1_1, .i h1_2, .f h2, .f h3] => q02f none n h0_n h0 h1_0_n h1_0_l h1_0_c h1_1 h1_2 h2 N i h3 (fun h3_ => K (.exit 0) (buildS q0nv [.i n, .n h0_n, .f h0, .n h1_0_n, .n h1_0_l, .n h1_0_c, .i h1_1, .i h1_2, .f h2, .f h3_]))
    | _ => none) ((q0ns α N).ls 197 3))
theorem q0nz {α : Type} (N : Nat) : EnvOk Try.prog (q0ny α N) := (q0nt N).addLoop2 Try.func197 (by kernel_rfl) (loopSum_ok q05l q05m (q0nt N) Try.func197 (by kernel_rfl) (d := 1) (ro := 1) fun l K r h => by
  split at h
  · exact (q0nx N _ _ _ _ _ _ _ _ _ K N _ _).trans h
  · cases h)
def q0o0 (α : Type) (N : Nat) : Env α := (q0ny α N).addAnn 197 7 { head := [0, 4, 5, 7], grow := [], out := [4, 5], ret := [4] }
theorem q0o1 {α : Type} (N : Nat) : EnvOk Try.prog (q0o0 α N) := (q0nz N).addAnn
def q0o2 : SPat := ⟨[.ptr ⟨⟨1, 0⟩, 0, 0, 3⟩, .undef, .undef, .undef, .ptr ⟨⟨2, 0⟩, 0, 0, 8⟩, .ptr ⟨⟨3, 0⟩, 0, 0, 8⟩, .undef, .int .i64] ++ List.replicate 34 .undef, [[.intsV .u8], [.vals [.sliceV 0 0 0 1 false, .int .i64, .int .u64]], [.ints .u8 8], [.ints .u8 8]]⟩
def q0o3 : SPat := ⟨[.undef, .undef, .undef, .undef, .ptr ⟨⟨2, 0⟩, 0, 0, 8⟩, .ptr ⟨⟨3, 0⟩, 0, 0, 8⟩] ++ List.replicate 36 .undef, [[.intsV .u8], [.vals [.sliceV 0 0 0 1 false, .int .i64, .int .u64]], [.ints .u8 8], [.ints .u8 8]]⟩
theorem q0o4 {α : Type} (N : Nat) (i : Int) (h0_n : Nat) (h0 : NI) (h1_0_n h1_0_l h1_0_c : Nat) (h1_1 h1_2 : Int) (h2 h3 : NI) (kn : St -> Option α) (K : AExit -> St -> Option α) :
    roundK Try.prog (q0o0 α N) 1 1 197 Try.f197 7 4 (buildS q0o2 [.i i, .n h0_n, .f h0, .n h1_0_n, .n h1_0_l, .n h1_0_c, .i h1_1, .i h1_2, .f h2, .f h3]) kn K = q02g none N h0_n h0 h1_0_n h1_0_l h1_0_c h2 i h1_1 h1_2 h3 (fun i h1_1 h1_2 h3 => kn (buildS q0o2 [.i i, .n h0_n, .f h0, .n h1_0_n, .n h1_0_l, .n h1_0_c, .i h1_1, .i h1_2, .f h2, .f h3])) (fun h1_1_ h1_2_ h3_ => K (.exit 2) (buildS q0o3 [.n h0_n, .f h0, .n h1_0_n, .n h1_0_l, .n h1_0_c, .i h1_1_, .i h1_2_, .f h2, .f h3_])) := by kernel_rfl
theorem q0o5 {α : Type} (N h0_n : Nat) (h0 : NI) (h1_0_n h1_0_l h1_0_c : Nat) (h2 : NI) (K : AExit -> St -> Option α) : ∀ (m : Nat) (i h1_1 h1_2 : Int) (h3 : NI),
    loopN (trimSt ((q0o0 α N).ann 197 7).head ((q0o0 α N).ann 197 7).grow 4) (bodyK Try.prog (q0o0 α N) 1 1 197 Try.f197 7) m (buildS q0o2 [.i i, .n h0_n, .f h0, .n h1_0_n, .n h1_0_l, .n h1_0_c, .i h1_1, .i h1_2, .f h2, .f h3]) (leaveLoop ((q0o0 α N).ann 197 7) 4 K) = q02h none N h0_n h0 h1_0_n h1_0_l h1_0_c h2 m i h1_1 h1_2 h3 (fun h1_1_ h1_2_ h3_ => K (.exit 2) (buildS q0o3 [.n h0_n, .f h0, .n h1_0_n, .n h1_0_l, .n h1_0_c, .i h1_1_, .i h1_2_, .f h2, .f h3_])) := by
  intro m
  induction m with
  | zero => intros; rfl
  | succ m ih =>
    intro i h1_1 h1_2 h3
    rw [loopN_round]
    refine (q0o4 N i h0_n h0 h1_0_n h1_0_l h1_0_c h1_1 h1_2 h2 h3 _ K).trans ?_
    simp only [ih]
    rfl
def q0o6 (α : Type) (N : Nat) : Env α := (q0o0 α N).addLoop2 197 7 (loopSum2 ((q0o0 α N).ann 197 7) 1 q0o2 (fun l K => match l with
    | [.i i, .n h0_n, .f h0, .n h1_0_n, .n h1_0_l, .n h1_0_c, .i h1_1, .i h1_2, .f h2, .f h3] => q02h none N h0_n h0 h1_0_n h1_0_l h1_0_c h2 N i h1_1 h1_2 h3 (fun h1_1_ h1_2_ h3_ => K (.exit 2) (buildS q0o3 [.n h0_n, .f h0, .n h1_0_n, .n h1_0_l, .n h1_0_c, .i h1_1_, .i h1_2_, .f h2, .f h3_]))
    | _ => none) ((q0o0 α N).ls 197 7))
theorem q0o7 {α : Type} (N : Nat) : EnvOk Try.prog (q0o6 α N) := (q0o1 N).addLoop2 Try.func197 (by kernel_rfl) (loopSum_ok q05l q05m (q0o1 N) Try.func197 (by kernel_rfl) (d := 1) (ro := 1) fun l K r h => by
  split at h
  · exact (q0o5 N _ _ _ _ _ _ K N _ _ _ _).trans h
  · cases h)
def q0o8 : SPat := ⟨[.ptr ⟨⟨1, 0⟩, 0, 0, 3⟩, .int .i64], [[.intsV .u8], [.vals [.sliceV 0 0 0 1 false, .int .i64, .int .u64]]]⟩
def q0o9 : SPat := ⟨[.agg [.ints .u8 8]], [[.intsV .u8], [.vals [.sliceV 0 0 0 1 false, .int .i64, .int .u64]]]⟩
theorem q0oa {α : Type} (N : Nat) (n : Int) (h0_n : Nat) (h0 : NI) (h1_0_n h1_0_l h1_0_c : Nat) (h1_1 h1_2 : Int) (K : AV -> Heap -> Option α) :
    callK Try.prog (q0o6 α N) 1 197 1 (buildS q0o8 [.i n, .n h0_n, .f h0, .n h1_0_n, .n h1_0_l, .n h1_0_c, .i h1_1, .i h1_2]).t (buildS q0o8 [.i n, .n h0_n, .f h0, .n h1_0_n, .n h1_0_l, .n h1_0_c, .i h1_1, .i h1_2]).h K = q02i none N n h0_n h0 h1_0_n h1_0_l h1_0_c h1_1 h1_2 (fun r__ h1_1_ h1_2_ => retK (buildS q0o9 [.f r__, .n h0_n, .f h0, .n h1_0_n, .n h1_0_l, .n h1_0_c, .i h1_1_, .i h1_2_]) K) := by kernel_rfl
def q0ob (α : Type) (N : Nat) : Env α := (q0o6 α N).addFun 197 false 1 q0o8 (fun l K => match l with
    | [.i n, .n h0_n, .f h0, .n h1_0_n, .n h1_0_l, .n h1_0_c, .i h1_1, .i h1_2] => q02i none N n h0_n h0 h1_0_n h1_0_l h1_0_c h1_1 h1_2 (fun r__ h1_1_ h1_2_ => retK (buildS q0o9 [.f r__, .n h0_n, .f h0, .n h1_0_n, .n h1_0_l, .n h1_0_c, .i h1_1_, .i h1_2_]) K)
    | _ => none)
theorem q0oc {α : Type} (N : Nat) : EnvOk Try.prog (q0ob α N) := (q0o7 N).addFun q05l q05m (d := 1) fun l K r h => by
  split at h
  · exact (q0oa N _ _ _ _ _ _ _ _ K).trans h
  · cases h
def q0od (α : Type) (N : Nat) : Env α := (q0ob α N).addAnn 122 3 { head := [1, 4, 5, 6, 7], grow := [], out := [1, 4, 5, 6], ret := [4] }
theorem q0oe {α : Type} (N : Nat) : EnvOk Try.prog (q0od α N) := (q0oc N).addAnn
def q0of : SPat := ⟨[.undef, .int .i64, .undef, .undef, .ptr ⟨⟨2, 0⟩, 0, 0, 1⟩, .ptr ⟨⟨3, 0⟩, 0, 0, 8⟩, .ptr ⟨⟨4, 0⟩, 0, 0, 8⟩, .int .i64] ++ List.replicate 66 .undef, [[.intsV .u8], [.vals [.sliceV 0 0 0 1 false, .int .i64, .int .u64]], [.vals [.int .i64], .ints .u8 8, .ints .u8 8], [.ints .u8 8], [.ints .u8 8]]⟩
def q0og : SPat := ⟨[.undef, .int .i64, .undef, .undef, .ptr ⟨⟨2, 0⟩, 0, 0, 1⟩, .ptr ⟨⟨3, 0⟩, 0, 0, 8⟩, .ptr ⟨⟨4, 0⟩, 0, 0, 8⟩] ++ List.replicate 67 .undef, [[.intsV .u8], [.vals [.sliceV 0 0 0 1 false, .int .i64, .int .u64]], [.vals [.int .i64], .ints .u8 8, .ints .u8 8], [.ints .u8 8], [.ints .u8 8]]⟩
theorem q0oh {α : Type} (N : Nat) (t1 t7 : Int) (h0_n : Nat) (h0 : NI) (h1_0_n h1_0_l h1_0_c : Nat) (h1_1 h1_2 h2_0 : Int) (h2_1 h2_2 h3 h4 : NI) (kn : St -> Option α) (K : AExit -> St -> Option α) :
    roundK Try.prog (q0od α N) 1 1 122 Try.f122 3 5 (buildS q0of [.i t1, .i t7, .n h0_n, .f h0, .n h1_0_n, .n h1_0_l, .n h1_0_c, .i h1_1, .i h1_2, .i h2_0, .f h2_1, .f h2_2, .f h3, .f h4]) kn K = q02j none t1 h0_n h0 h1_0_n h1_0_l h1_0_c h1_1 h1_2 h2_0 h2_1 h2_2 h3 t7 h4 (fun t7 h4 => kn (buildS q0of [.i t1, .i t7, .n h0_n, .f h0, .n h1_0_n, .n h1_0_l, .n h1_0_c, .i h1_1, .i h1_2, .i h2_0, .f h2_1, .f h2_2, .f h3, .f h4])) (fun h4_ => K (.exit 0) (buildS q0og [.i t1, .n h0_n, .f h0, .n h1_0_n, .n h1_0_l, .n h1_0_c, .i h1_1, .i h1_2, .i h2_0, .f h2_1, .f h2_2, .f h3, .f h4_])) := by kernel_rfl
theorem q0oi {α : Type} (N : Nat) (t1 : Int) (h0_n : Nat) (h0 : NI) (h1_0_n h1_0_l h1_0_c : Nat) (h1_1 h1_2 h2_0 : Int) (h2_1 h2_2 h3 : NI) (K : AExit -> St -> Option α) : ∀ (m : Nat) (t7 : Int) (h4 : NI),
    loopN (trimSt ((q0od α N).ann 122 3).head ((q0od α N).ann 122 3).grow 5) (bodyK Try.prog (q0od α N) 1 1 122 Try.f122 3) m (buildS q0of [.i t1, .i t7, .n h0_n, .f h0, .n h1_0_n, .n h1_0_l, .n h1_0_c, .i h1_1, .i h1_2, .i h2_0, .f h2_1, .f h2_2, .f h3, .f h4]) (leaveLoop ((q0od α N).ann 122 3) 5 K) = q02k none t1 h0_n h0 h1_0_n h1_0_l h1_0_c h1_1 h1_2 h2_0 h2_1 h2_2 h3 m t7 h4 (fun h4_ => K (.exit 0) (buildS q0og [.i t1, .n h0_n, .f h0, .n h1_0_n, .n h1_0_l, .n h1_0_c, .i h1_1, .i h1_2, .i h2_0, .f h2_1, .f h2_2, .f h3, .f h4_])) := by
  intro m
  induction m with
  | zero => intros; rfl
  | succ m ih =>
    intro t7 h4
    rw [loopN_round]
    refine (q0oh N t1 t7 h0_n h0 h1_0_n h1_0_l h1_0_c h1_1 h1_2 h2_0 h2_1 h2_2 h3 h4 _ K).trans ?_
    simp only [ih]
    rfl
def q0oj (α : Type) (N : Nat) : Env α := (q0od α N).addLoop2 122 3 (loopSum2 ((q0od α N).ann 122 3) 1 q0of (fun l K => match l with
    | [.i t1, .i t7, .n h0_n, .f h0, .n h1_0_n, .n h1_0_l, .n h1_0_c, .i h1_1, .i h1_2, .i h2_0, .f h2_1, .f h2_2, .f h3, .f h4] => q02k none t1 h0_n h0 h1_0_n h1_0_l h1_0_c h1_1 h1_2 h2_0 h2_1 h2_2 h3 N t7 h4 (fun h4_ => K (.exit 0) (buildS q0og [.i t1, .n h0_n, .f h0, .n h1_0_n, .n h1_0_l, .n h1_0_c, .i h1_1, .i h1_2, .i h2_0, .f h2_1, .f h2_2, .f h3, .f h4_]))
    | _ => none) ((q0od α N).ls 122 3))
theorem q0ok {α : Type} (N : Nat) : EnvOk Try.prog (q0oj α N) := (q0oe N).addLoop2 Try.func122 (by kernel_rfl) (loopSum_ok q05l q05m (q0oe N) Try.func122 (by kernel_rfl) (d := 1) (ro := 1) fun l K r h => by
  split at h
  · exact (q0oi N _ _ _ _ _ _ _ _ _ _ _ _ K N _ _).trans h
  · cases h)
def q0ol (α : Type) (N : Nat) : Env α := (q0oj α N).addAnn 122 14 { head := [1, 4, 5, 11, 12], grow := [], out := [4, 11], ret := [4] }
theorem q0om {α : Type} (N : Nat) : EnvOk Try.prog (q0ol α N) := (q0ok N).addAnn
def q0on : SPat := ⟨[.undef, .int .i64, .undef, .undef, .ptr ⟨⟨2, 0⟩, 0, 0, 1⟩, .ptr ⟨⟨3, 0⟩, 0, 0, 8⟩, .undef, .undef, .undef, .undef, .undef, .ptr ⟨⟨5, 0⟩, 0, 0, 1⟩, .int .i64] ++ List.replicate 61 .undef, [[.intsV .u8], [.vals [.sliceV 0 0 0 1 false, .int .i64, .int .u64]], [.vals [.int .i64], .ints .u8 8, .ints .u8 8], [.ints .u8 8], [.ints .u8 8], [.vals [.int .i64], .ints .u8 8, .ints .u8 8]]⟩
def q0oo : SPat := ⟨[.undef, .undef, .undef, .undef, .ptr ⟨⟨2, 0⟩, 0, 0, 1⟩, .undef, .undef, .undef, .undef, .undef, .undef, .ptr ⟨⟨5, 0⟩, 0, 0, 1⟩] ++ List.replicate 62 .undef, [[.intsV .u8], [.vals [.sliceV 0 0 0 1 false, .int .i64, .int .u64]], [.vals [.int .i64], .ints .u8 8, .ints .u8 8], [.ints .u8 8], [.ints .u8 8], [.vals [.int .i64], .ints .u8 8, .ints .u8 8]]⟩
theorem q0op {α : Type} (N : Nat) (t1 t12 : Int) (h0_n : Nat) (h0 : NI) (h1_0_n h1_0_l h1_0_c : Nat) (h1_1 h1_2 h2_0 : Int) (h2_1 h2_2 h3 h4 : NI) (h5_0 : Int) (h5_1 h5_2 : NI) (kn : St -> Option α) (K : AExit -> St -> Option α) :
    roundK Try.prog (q0ol α N) 1 1 122 Try.f122 14 6 (buildS q0on [.i t1, .i t12, .n h0_n, .f h0, .n h1_0_n, .n h1_0_l, .n h1_0_c, .i h1_1, .i h1_2, .i h2_0, .f h2_1, .f h2_2, .f h3, .f h4, .i h5_0, .f h5_1, .f h5_2]) kn K = q02l none t1 h0_n h0 h1_0_n h1_0_l h1_0_c h1_1 h1_2 h2_0 h2_1 h2_2 h3 h4 h5_0 h5_1 t12 h5_2 (fun t12 h5_2 => kn (buildS q0on [.i t1, .i t12, .n h0_n, .f h0, .n h1_0_n, .n h1_0_l, .n h1_0_c, .i h1_1, .i h1_2, .i h2_0, .f h2_1, .f h2_2, .f h3, .f h4, .i h5_0, .f h5_1, .f h5_2])) (fun h5_2_ => K (.exit 2) (buildS q0oo [.n h0_n, .f h0, .n h1_0_n, .n h1_0_l, .n h1_0_c, .i h1_1, .i h1_2, .i h2_0, .f h2_1, .f h2_2, .f h3, .f h4, .i h5_0, .f h5_1, .f h5_2_])) := by kernel_rfl
theorem q0oq {α : Type} (N : Nat) (t1 : Int) (h0_n : Nat) (h0 : NI) (h1_0_n h1_0_l h1_0_c : Nat) (h1_1 h1_2 h2_0 : Int) (h2_1 h2_2 h3 h4 : NI) (h5_0 : Int) (h5_1 : NI) (K : AExit -> St -> Option α) : ∀ (m : Nat) (t12 : Int) (h5_2 : NI),
    loopN (trimSt ((q0ol α N).ann 122 14).head ((q0ol α N).ann 122 14).grow 6) (bodyK Try.prog (q0ol α N) 1 1 122 Try.f122 14) m (buildS q0on [.i t1, .i t12, .n h0_n, .f h0, .n h1_0_n, .n h1_0_l, .n h1_0_c, .i h1_1, .i h1_2, .i h2_0, .f h2_1, .f h2_2, .f h3, .f h4, .i h5_0, .f h5_1, .f h5_2]) (leaveLoop ((q0ol α N).ann 122 14) 6 K) = q02m none t1 h0_n h0 h1_0_n h1_0_l h1_0_c h1_1 h1_2 h2_0 h2_1 h2_2 h3 h4 h5_0 h5_1 m t12 h5_2 (fun h5_2_ => K (.exit 2) (buildS q0oo [.n h0_n, .f h0, .n h1_0_n, .n h1_0_l, .n h1_0_c, .i h1_1, .i h1_2, .i h2_0, .f h2_1, .f h2_2, .f h3, .f h4, .i h5_0, .f h5_1, .f h5_2_])) := by
  intro m
  induction m with
  | zero => intros; rfl
  | succ m ih =>
    intro t12 h5_2
    rw [loopN_round]
    refine (q0op N t1 t12 h0_n h0 h1_0_n h1_0_l h1_0_c h1_1 h1_2 h2_0 h2_1 h2_2 h3 h4 h5_0 h5_1 h5_2 _ K).trans ?_
    simp only [ih]
    rfl
def q0or (α : Type) (N : Nat) : Env α := (q0ol α N).addLoop2 122 14 (loopSum2 ((q0ol α N).ann 122 14) 1 q0on (fun l K => match l with
    | [.i t1, .i t12, .n h0_n, .f h0, .n h1_0_n, .n h1_0_l, .n h1_0_c, .i h1_1, .i h1_2, .i h2_0, .f h2_1, .f h2_2, .f h3, .f h4, .i h5_0, .f h5_1, .f h5_2] => q02m none t1 h0_n h0 h1_0_n h1_0_l h1_0_c h1_1 h1_2 h2_0 h2_1 h2_2 h3 h4 h5_0 h5_1 N t12 h5_2 (fun h5_2_ => K (.exit 2) (buildS q0oo [.n h0_n, .f h0, .n h1_0_n, .n h1_0_l, .n h1_0_c, .i h1_1, .i h1_2, .i h2_0, .f h2_1, .f h2_2, .f h3, .f h4, .i h5_0, .f h5_1, .f h5_2_]))
    | _ => none) ((q0ol α N).ls 122 14))
theorem q0os {α : Type} (N : Nat) : EnvOk Try.prog (q0or α N) := (q0om N).addLoop2 Try.func122 (by kernel_rfl) (loopSum_ok q05l q05m (q0om N) Try.func122 (by kernel_rfl) (d := 1) (ro := 1) fun l K r h => by
  split at h
  · exact (q0oq N _ _ _ _ _ _ _ _ _ _ _ _ _ _ _ K N _ _).trans h
  · cases h)
def q0ot : SPat := ⟨[.ptr ⟨⟨1, 0⟩, 0, 0, 3⟩, .int .i64], [[.intsV .u8], [.vals [.sliceV 0 0 0 1 false, .int .i64, .int .u64]]]⟩
def q0ou : SPat := ⟨[.agg [.vals [.int .i64], .ints .u8 8, .ints .u8 8]], [[.intsV .u8], [.vals [.sliceV 0 0 0 1 false, .int .i64, .int .u64]]]⟩
theorem q0ov {α : Type} (N : Nat) (a1 : Int) (h0_n : Nat) (h0 : NI) (h1_0_n h1_0_l h1_0_c : Nat) (h1_1 h1_2 : Int) (K : AV -> Heap -> Option α) :
    callK Try.prog (q0or α N) 1 122 1 (buildS q0ot [.i a1, .n h0_n, .f h0, .n h1_0_n, .n h1_0_l, .n h1_0_c, .i h1_1, .i h1_2]).t (buildS q0ot [.i a1, .n h0_n, .f h0, .n h1_0_n, .n h1_0_l, .n h1_0_c, .i h1_1, .i h1_2]).h K = q02n none N a1 h0_n h0 h1_0_n h1_0_l h1_0_c h1_1 h1_2 (fun r_1_ r_2_ h1_1_ h1_2_ => retK (buildS q0ou [.i a1, .f r_1_, .f r_2_, .n h0_n, .f h0, .n h1_0_n, .n h1_0_l, .n h1_0_c, .i h1_1_, .i h1_2_]) K) := by kernel_rfl
def q0ow (α : Type) (N : Nat) : Env α := (q0or α N).addFun 122 false 1 q0ot (fun l K => match l with
    | [.i a1, .n h0_n, .f h0, .n h1_0_n, .n h1_0_l, .n h1_0_c, .i h1_1, .i h1_2] => q02n none N a1 h0_n h0 h1_0_n h1_0_l h1_0_c h1_1 h1_2 (fun r_1_ r_2_ h1_1_ h1_2_ => retK (buildS q0ou [.i a1, .f r_1_, .f r_2_, .n h0_n, .f h0, .n h1_0_n, .n h1_0_l, .n h1_0_c, .i h1_1_, .i h1_2_]) K)
    | _ => none)
theorem q0ox {α : Type} (N : Nat) : EnvOk Try.prog (q0ow α N) := (q0os N).addFun q05l q05m (d := 1) fun l K r h => by
  split at h
  · exact (q0ov N _ _ _ _ _ _ _ _ K).trans h
  · cases h
def q0oy : SPat := ⟨[.ptr ⟨⟨1, 0⟩, 0, 0, 3⟩, .slice ⟨⟨2, 0⟩, 0, 0, 5⟩ 5 5 1 true], [[.intsV .u8], [.vals [.sliceV 0 0 0 1 false, .int .i64, .int .u64]], [.vec .i64]]⟩
def q0oz : SPat := ⟨[.int .i64], [[.intsV .u8], [.vals [.sliceV 0 0 0 1 false, .int .i64, .int .u64]], [.vec .i64]]⟩
theorem q0p0 {α : Type} (N h0_n : Nat) (h0 : NI) (h1_0_n h1_0_l h1_0_c : Nat) (h1_1 h1_2 : Int) (h2 : List Int) (K : AV -> Heap -> Option α) :
    callK Try.prog (q0ow α N) 1 115 1 (buildS q0oy [.n h0_n, .f h0, .n h1_0_n, .n h1_0_l, .n h1_0_c, .i h1_1, .i h1_2, .l h2]).t (buildS q0oy [.n h0_n, .f h0, .n h1_0_n, .n h1_0_l, .n h1_0_c, .i h1_1, .i h1_2, .l h2]).h K = q02o none N h0_n h0 h1_0_n h1_0_l h1_0_c h1_1 h1_2 h2 (fun r__ h1_1_ h1_2_ => retK (buildS q0oz [.i r__, .n h0_n, .f h0, .n h1_0_n, .n h1_0_l, .n h1_0_c, .i h1_1_, .i h1_2_, .l h2]) K) := by kernel_rfl
def q0p1 (α : Type) (N : Nat) : Env α := (q0ow α N).addFun 115 false 1 q0oy (fun l K => match l with
    | [.n h0_n, .f h0, .n h1_0_n, .n h1_0_l, .n h1_0_c, .i h1_1, .i h1_2, .l h2] => q02o none N h0_n h0 h1_0_n h1_0_l h1_0_c h1_1 h1_2 h2 (fun r__ h1_1_ h1_2_ => retK (buildS q0oz [.i r__, .n h0_n, .f h0, .n h1_0_n, .n h1_0_l, .n h1_0_c, .i h1_1_, .i h1_2_, .l h2]) K)
    | _ => none)
theorem q0p2 {α : Type} (N : Nat) : EnvOk Try.prog (q0p1 α N) := (q0ox N).addFun q05l q05m (d := 1) fun l K r h => by
  split at h
  · exact (q0p0 N _ _ _ _ _ _ _ _ K).trans h
  · cases h
def q0p3 (α : Type) (N : Nat) : Env α := (q0p1 α N).addAnn 192 7 { head := [0, 2, 3, 4, 5, 6], grow := [], out := [0, 2, 4, 5], ret := [2] }
theorem q0p4 {α : Type} (N : Nat) : EnvOk Try.prog (q0p3 α N) := (q0p2 N).addAnn
def q0p5 : SPat := ⟨[.ptr ⟨⟨1, 0⟩, 0, 0, 3⟩, .undef, .ptr ⟨⟨2, 0⟩, 0, 0, 1⟩, .int .i64, .int .i64, .ptr ⟨⟨3, 0⟩, 0, 0, 1⟩, .int .i64] ++ List.replicate 55 .undef, [[.intsV .u8], [.vals [.sliceV 0 0 0 1 false, .int .i64, .int .u64]], [.vals [.int .i64], .ints .u8 8, .ints .u8 8], [.vals [.int .i64], .ints .u8 8, .ints .u8 8]]⟩
def q0p6 : SPat := ⟨[.ptr ⟨⟨1, 0⟩, 0, 0, 3⟩, .undef, .ptr ⟨⟨2, 0⟩, 0, 0, 1⟩, .undef, .int .i64, .ptr ⟨⟨3, 0⟩, 0, 0, 1⟩] ++ List.replicate 56 .undef, [[.intsV .u8], [.vals [.sliceV 0 0 0 1 false, .int .i64, .int .u64]], [.vals [.int .i64], .ints .u8 8, .ints .u8 8], [.vals [.int .i64], .ints .u8 8, .ints .u8 8]]⟩
theorem q0p7 {α : Type} (N : Nat) (p n i : Int) (h0_n : Nat) (h0 : NI) (h1_0_n h1_0_l h1_0_c : Nat) (h1_1 h1_2 h2_0 : Int) (h2_1 h2_2 : NI) (h3_0 : Int) (h3_1 h3_2 : NI) (kn : St -> Option α) (K : AExit -> St -> Option α) :
    roundK Try.prog (q0p3 α N) 1 1 192 Try.f192 7 4 (buildS q0p5 [.i p, .i n, .i i, .n h0_n, .f h0, .n h1_0_n, .n h1_0_l, .n h1_0_c, .i h1_1, .i h1_2, .i h2_0, .f h2_1, .f h2_2, .i h3_0, .f h3_1, .f h3_2]) kn K = q02p none p n h0_n h0 h1_0_n h1_0_l h1_0_c h1_1 h1_2 h2_0 h2_1 h2_2 h3_0 i h3_1 h3_2 (fun i h3_1 h3_2 => kn (buildS q0p5 [.i p, .i n, .i i, .n h0_n, .f h0, .n h1_0_n, .n h1_0_l, .n h1_0_c, .i h1_1, .i h1_2, .i h2_0, .f h2_1, .f h2_2, .i h3_0, .f h3_1, .f h3_2])) (fun h3_1_ h3_2_ => K (.exit 1) (buildS q0p6 [.i n, .n h0_n, .f h0, .n h1_0_n, .n h1_0_l, .n h1_0_c, .i h1_1, .i h1_2, .i h2_0, .f h2_1, .f h2_2, .i h3_0, .f h3_1_, .f h3_2_])) := by kernel_rfl
theorem q0p8 {α : Type} (N : Nat) (p n : Int) (h0_n : Nat) (h0 : NI) (h1_0_n h1_0_l h1_0_c : Nat) (h1_1 h1_2 h2_0 : Int) (h2_1 h2_2 : NI) (h3_0 : Int) (K : AExit -> St -> Option α) : ∀ (m : Nat) (i : Int) (h3_1 h3_2 : NI),
    loopN (trimSt ((q0p3 α N).ann 192 7).head ((q0p3 α N).ann 192 7).grow 4) (bodyK Try.prog (q0p3 α N) 1 1 192 Try.f192 7) m (buildS q0p5 [.i p, .i n, .i i, .n h0_n, .f h0, .n h1_0_n, .n h1_0_l, .n h1_0_c, .i h1_1, .i h1_2, .i h2_0, .f h2_1, .f h2_2, .i h3_0, .f h3_1, .f h3_2]) (leaveLoop ((q0p3 α N).ann 192 7) 4 K) = q02q none p n h0_n h0 h1_0_n h1_0_l h1_0_c h1_1 h1_2 h2_0 h2_1 h2_2 h3_0 m i h3_1 h3_2 (fun h3_1_ h3_2_ => K (.exit 1) (buildS q0p6 [.i n, .n h0_n, .f h0, .n h1_0_n, .n h1_0_l, .n h1_0_c, .i h1_1, .i h1_2, .i h2_0, .f h2_1, .f h2_2, .i h3_0, .f h3_1_, .f h3_2_])) := by
  intro m
  induction m with
  | zero => intros; rfl
  | succ m ih =>
    intro i h3_1 h3_2
    rw [loopN_round]
    refine (q0p7 N p n i h0_n h0 h1_0_n h1_0_l h1_0_c h1_1 h1_2 h2_0 h2_1 h2_2 h3_0 h3_1 h3_2 _ K).trans ?_
    simp only [ih]
    rfl
def q0p9 (α : Type) (N : Nat) : Env α := (q0p3 α N).addLoop2 192 7 (loopSum2 ((q0p3 α N).ann 192 7) 1 q0p5 (fun l K => match l with
    | [.i p, .i n, .i i, .n h0_n, .f h0, .n h1_0_n, .n h1_0_l, .n h1_0_c, .i h1_1, .i h1_2, .i h2_0, .f h2_1, .f h2_2, .i h3_0, .f h3_1, .f h3_2] => q02q none p n h0_n h0 h1_0_n h1_0_l h1_0_c h1_1 h1_2 h2_0 h2_1 h2_2 h3_0 N i h3_1 h3_2 (fun h3_1_ h3_2_ => K (.exit 1) (buildS q0p6 [.i n, .n h0_n, .f h0, .n h1_0_n, .n h1_0_l, .n h1_0_c, .i h1_1, .i h1_2, .i h2_0, .f h2_1, .f h2_2, .i h3_0, .f h3_1_, .f h3_2_]))
    | _ => none) ((q0p3 α N).ls 192 7))
theorem q0pa {α : Type} (N : Nat) : EnvOk Try.prog (q0p9 α N) := (q0p4 N).addLoop2 Try.func192 (by kernel_rfl) (loopSum_ok q05l q05m (q0p4 N) Try.func192 (by kernel_rfl) (d := 1) (ro := 1) fun l K r h => by
  split at h
  · exact (q0p8 N _ _ _ _ _ _ _ _ _ _ _ _ _ K N _ _ _).trans h
  · cases h)
def q0pb (α : Type) (N : Nat) : Env α := (q0p9 α N).addAnn 120 3 { head := [1, 2, 3, 6, 7, 8, 9], grow := [], out := [6, 8], ret := [6] }
theorem q0pc {α : Type} (N : Nat) : EnvOk Try.prog (q0pb α N) := (q0pa N).addAnn
def q0pd : SPat := ⟨[.undef, .int .i64, .int .i64, .ptr ⟨⟨0, 0⟩, 0, 0, 1⟩, .undef, .undef, .ptr ⟨⟨1, 0⟩, 0, 0, 1⟩, .int .i64, .ptr ⟨⟨2, 0⟩, 0, 0, 1⟩, .int .i64] ++ List.replicate 55 .undef, [[.vals [.int .i64], .ints .u8 8, .ints .u8 8], [.vals [.int .i64], .ints .u8 8, .ints .u8 8], [.vals [.int .i64], .ints .u8 8, .ints .u8 8]]⟩
def q0pe : SPat := ⟨[.undef, .undef, .undef, .undef, .undef, .undef, .ptr ⟨⟨1, 0⟩, 0, 0, 1⟩, .undef, .ptr ⟨⟨2, 0⟩, 0, 0, 1⟩] ++ List.replicate 56 .undef, [[.vals [.int .i64], .ints .u8 8, .ints .u8 8], [.vals [.int .i64], .ints .u8 8, .ints .u8 8], [.vals [.int .i64], .ints .u8 8, .ints .u8 8]]⟩
theorem q0pf {α : Type} (N : Nat) (t1 t2 t7 t9 h0_0 : Int) (h0_1 h0_2 : NI) (h1_0 : Int) (h1_1 h1_2 : NI) (h2_0 : Int) (h2_1 h2_2 : NI) (kn : St -> Option α) (K : AExit -> St -> Option α) :
    roundK Try.prog (q0pb α N) 1 0 120 Try.f120 3 3 (buildS q0pd [.i t1, .i t2, .i t7, .i t9, .i h0_0, .f h0_1, .f h0_2, .i h1_0, .f h1_1, .f h1_2, .i h2_0, .f h2_1, .f h2_2]) kn K = q00o none t1 t2 t7 h0_0 h0_1 h0_2 h1_0 h1_1 h1_2 h2_0 t9 h2_1 h2_2 (fun t9 h2_1 h2_2 => kn (buildS q0pd [.i t1, .i t2, .i t7, .i t9, .i h0_0, .f h0_1, .f h0_2, .i h1_0, .f h1_1, .f h1_2, .i h2_0, .f h2_1, .f h2_2])) (fun h2_1_ h2_2_ => K (.exit 0) (buildS q0pe [.i h0_0, .f h0_1, .f h0_2, .i h1_0, .f h1_1, .f h1_2, .i h2_0, .f h2_1_, .f h2_2_])) := by kernel_rfl
theorem q0pg {α : Type} (N : Nat) (t1 t2 t7 h0_0 : Int) (h0_1 h0_2 : NI) (h1_0 : Int) (h1_1 h1_2 : NI) (h2_0 : Int) (K : AExit -> St -> Option α) : ∀ (m : Nat) (t9 : Int) (h2_1 h2_2 : NI),
    loopN (trimSt ((q0pb α N).ann 120 3).head ((q0pb α N).ann 120 3).grow 3) (bodyK Try.prog (q0pb α N) 1 0 120 Try.f120 3) m (buildS q0pd [.i t1, .i t2, .i t7, .i t9, .i h0_0, .f h0_1, .f h0_2, .i h1_0, .f h1_1, .f h1_2, .i h2_0, .f h2_1, .f h2_2]) (leaveLoop ((q0pb α N).ann 120 3) 3 K) = q00p none t1 t2 t7 h0_0 h0_1 h0_2 h1_0 h1_1 h1_2 h2_0 m t9 h2_1 h2_2 (fun h2_1_ h2_2_ => K (.exit 0) (buildS q0pe [.i h0_0, .f h0_1, .f h0_2, .i h1_0, .f h1_1, .f h1_2, .i h2_0, .f h2_1_, .f h2_2_])) := by
  intro m
  induction m with
  | zero => intros; rfl
  | succ m ih =>
    intro t9 h2_1 h2_2
    rw [loopN_round]
    refine (q0pf N t1 t2 t7 t9 h0_0 h0_1 h0_2 h1_0 h1_1 h1_2 h2_0 h2_1 h2_2 _ K).trans ?_
    simp only [ih]
    rfl
def q0ph (α : Type) (N : Nat) : Env α := (q0pb α N).addLoop2 120 3 (loopSum2 ((q0pb α N).ann 120 3) 0 q0pd (fun l K => match l with
    | [.i t1, .i t2, .i t7, .i t9, .i h0_0, .f h0_1, .f h0_2, .i h1_0, .f h1_1, .f h1_2, .i h2_0, .f h2_1, .f h2_2] => q00p none t1 t2 t7 h0_0 h0_1 h0_2 h1_0 h1_1 h1_2 h2_0 N t9 h2_1 h2_2 (fun h2_1_ h2_2_ => K (.exit 0) (buildS q0pe [.i h0_0, .f h0_1, .f h0_2, .i h1_0, .f h1_1, .f h1_2, .i h2_0, .f h2_1_, .f h2_2_]))
    | _ => none) ((q0pb α N).ls 120 3))
theorem q0pi {α : Type} (N : Nat) : EnvOk Try.prog (q0ph α N) := (q0pc N).addLoop2 Try.func120 (by kernel_rfl) (loopSum_ok q05l q05m (q0pc N) Try.func120 (by kernel_rfl) (d := 1) (ro := 0) fun l K r h => by
  split at h
  · exact (q0pg N _ _ _ _ _ _ _ _ _ _ K N _ _ _).trans h
  · cases h)
def q0pj : SPat := ⟨[.agg [.vals [.int .i64], .ints .u8 8, .ints .u8 8], .int .i64, .int .i64], []⟩
def q0pk : SPat := ⟨[.agg [.vals [.int .i64], .ints .u8 8, .ints .u8 8]], []⟩
theorem q0pl {α : Type} (N : Nat) (g_0 : Int) (g_1 g_2 : NI) (a1 a2 : Int) (K : AV -> Heap -> Option α) :
    callK Try.prog (q0ph α N) 1 120 0 (buildS q0pj [.i g_0, .f g_1, .f g_2, .i a1, .i a2]).t (buildS q0pj [.i g_0, .f g_1, .f g_2, .i a1, .i a2]).h K = q00q none N g_0 g_1 g_2 a1 a2 (fun r_1_ r_2_ => retK (buildS q0pk [.i g_0, .f r_1_, .f r_2_]) K) := by kernel_rfl
def q0pm (α : Type) (N : Nat) : Env α := (q0ph α N).addFun 120 true 0 q0pj (fun l K => match l with
    | [.i g_0, .f g_1, .f g_2, .i a1, .i a2] => q00q none N g_0 g_1 g_2 a1 a2 (fun r_1_ r_2_ => retK (buildS q0pk [.i g_0, .f r_1_, .f r_2_]) K)
    | _ => none)
theorem q0pn {α : Type} (N : Nat) : EnvOk Try.prog (q0pm α N) := (q0pi N).addFun q05l q05m (d := 1) fun l K r h => by
  split at h
  · exact (q0pl N _ _ _ _ _ K).trans h
  · cases h
def q0po : SPat := ⟨[.ptr ⟨⟨1, 0⟩, 0, 0, 3⟩], [[.intsV .u8], [.vals [.sliceV 0 0 0 1 false, .int .i64, .int .u64]]]⟩
def q0pp : SPat := ⟨[.agg [.vals [.int .i64], .ints .u8 8, .ints .u8 8]], [[.intsV .u8], [.vals [.sliceV 0 0 0 1 false, .int .i64, .int .u64]]]⟩
theorem q0pq {α : Type} (N h0_n : Nat) (h0 : NI) (h1_0_n h1_0_l h1_0_c : Nat) (h1_1 h1_2 : Int) (K : AV -> Heap -> Option α) :
    callK Try.prog (q0pm α N) 1 192 1 (buildS q0po [.n h0_n, .f h0, .n h1_0_n, .n h1_0_l, .n h1_0_c, .i h1_1, .i h1_2]).t (buildS q0po [.n h0_n, .f h0, .n h1_0_n, .n h1_0_l, .n h1_0_c, .i h1_1, .i h1_2]).h K = q02r none N h0_n h0 h1_0_n h1_0_l h1_0_c h1_1 h1_2 (fun r_0_ r_1_ r_2_ h1_1_ h1_2_ => retK (buildS q0pp [.i r_0_, .f r_1_, .f r_2_, .n h0_n, .f h0, .n h1_0_n, .n h1_0_l, .n h1_0_c, .i h1_1_, .i h1_2_]) K) := by kernel_rfl
def q0pr (α : Type) (N : Nat) : Env α := (q0pm α N).addFun 192 false 1 q0po (fun l K => match l with
    | [.n h0_n, .f h0, .n h1_0_n, .n h1_0_l, .n h1_0_c, .i h1_1, .i h1_2] => q02r none N h0_n h0 h1_0_n h1_0_l h1_0_c h1_1 h1_2 (fun r_0_ r_1_ r_2_ h1_1_ h1_2_ => retK (buildS q0pp [.i r_0_, .f r_1_, .f r_2_, .n h0_n, .f h0, .n h1_0_n, .n h1_0_l, .n h1_0_c, .i h1_1_, .i h1_2_]) K)
    | _ => none)
theorem q0ps {α : Type} (N : Nat) : EnvOk Try.prog (q0pr α N) := (q0pn N).addFun q05l q05m (d := 1) fun l K r h => by
  split at h
  · exact (q0pq N _ _ _ _ _ _ _ K).trans h
  · cases h
def q0pt : SPat := ⟨[.ptr ⟨⟨1, 0⟩, 0, 0, 3⟩, .agg [.vals [.int .i64], .ints .u8 8, .ints .u8 8]], [[.intsV .u8], [.vals [.sliceV 0 0 0 1 false, .int .i64, .int .u64]]]⟩
def q0pu : SPat := ⟨[.agg [.vals [.int .i64], .ints .u8 8, .ints .u8 8]], [[.intsV .u8], [.vals [.sliceV 0 0 0 1 false, .int .i64, .int .u64]]]⟩
theorem q0pv {α : Type} (N : Nat) (g_0 : Int) (g_1 g_2 : NI) (h0_n : Nat) (h0 : NI) (h1_0_n h1_0_l h1_0_c : Nat) (h1_1 h1_2 : Int) (K : AV -> Heap -> Option α) :
    callK Try.prog (q0pr α N) 1 121 1 (buildS q0pt [.i g_0, .f g_1, .f g_2, .n h0_n, .f h0, .n h1_0_n, .n h1_0_l, .n h1_0_c, .i h1_1, .i h1_2]).t (buildS q0pt [.i g_0, .f g_1, .f g_2, .n h0_n, .f h0, .n h1_0_n, .n h1_0_l, .n h1_0_c, .i h1_1, .i h1_2]).h K = q02s none N g_0 g_1 g_2 h0_n h0 h1_0_n h1_0_l h1_0_c h1_1 h1_2 (fun r_0_ r_1_ r_2_ h1_1_ h1_2_ => retK (buildS q0pu [.i r_0_, .f r_1_, .f r_2_, .n h0_n, .f h0, .n h1_0_n, .n h1_0_l, .n h1_0_c, .i h1_1_, .i h1_2_]) K) := by kernel_rfl
def q0pw (α : Type) (N : Nat) : Env α := (q0pr α N).addFun 121 false 1 q0pt (fun l K => match l with
    | [.i g_0, .f g_1, .f g_2, .n h0_n, .f h0, .n h1_0_n, .n h1_0_l, .n h1_0_c, .i h1_1, .i h1_2] => q02s none N g_0 g_1 g_2 h0_n h0 h1_0_n h1_0_l h1_0_c h1_1 h1_2 (fun r_0_ r_1_ r_2_ h1_1_ h1_2_ => retK (buildS q0pu [.i r_0_, .f r_1_, .f r_2_, .n h0_n, .f h0, .n h1_0_n, .n h1_0_l, .n h1_0_c, .i h1_1_, .i h1_2_]) K)
    | _ => none)
theorem q0px {α : Type} (N : Nat) : EnvOk Try.prog (q0pw α N) := (q0ps N).addFun q05l q05m (d := 1) fun l K r h => by
  split at h
  · exact (q0pv N _ _ _ _ _ _ _ _ _ _ K).trans h
  · cases h
def q0py : SPat := ⟨[.ptr ⟨⟨1, 0⟩, 0, 0, 3⟩], [[.intsV .u8], [.vals [.sliceV 0 0 0 1 false, .int .i64, .int .u64]]]⟩
def q0pz : SPat := ⟨[.agg [.vals [.int .i64], .ints .u8 8, .ints .u8 8]], [[.intsV .u8], [.vals [.sliceV 0 0 0 1 false, .int .i64, .int .u64]]]⟩
theorem q0q0 {α : Type} (N h0_n : Nat) (h0 : NI) (h1_0_n h1_0_l h1_0_c : Nat) (h1_1 h1_2 : Int) (K : AV -> Heap -> Option α) :
    callK Try.prog (q0pw α N) 1 103 1 (buildS q0py [.n h0_n, .f h0, .n h1_0_n, .n h1_0_l, .n h1_0_c, .i h1_1, .i h1_2]).t (buildS q0py [.n h0_n, .f h0, .n h1_0_n, .n h1_0_l, .n h1_0_c, .i h1_1, .i h1_2]).h K = q02t none N h0_n h0 h1_0_n h1_0_l h1_0_c h1_1 h1_2 (fun r_0_ r_1_ r_2_ h1_1_ h1_2_ => retK (buildS q0pz [.i r_0_, .f r_1_, .f r_2_, .n h0_n, .f h0, .n h1_0_n, .n h1_0_l, .n h1_0_c, .i h1_1_, .i h1_2_]) K) := by kernel_rfl
def q0q1 (α : Type) (N : Nat) : Env α := (q0pw α N).addFun 103 false 1 q0py (fun l K => match l with
    | [.n h0_n, .f h0, .n h1_0_n, .n h1_0_l, .n h1_0_c, .i h1_1, .i h1_2] => q02t none N h0_n h0 h1_0_n h1_0_l h1_0_c h1_1 h1_2 (fun r_0_ r_1_ r_2_ h1_1_ h1_2_ => retK (buildS q0pz [.i r_0_, .f r_1_, .f r_2_, .n h0_n, .f h0, .n h1_0_n, .n h1_0_l, .n h1_0_c, .i h1_1_, .i h1_2_]) K)
    | _ => none)
theorem q0q2 {α : Type} (N : Nat) : EnvOk Try.prog (q0q1 α N) := (q0px N).addFun q05l q05m (d := 1) fun l K r h => by
  split at h
  · exact (q0q0 N _ _ _ _ _ _ _ K).trans h
  · cases h
def q0q3 : SPat := ⟨[.sliceV 0 0 0 1 false], [[.intsV .u8]]⟩
def q0q4 : SPat := ⟨[.agg [.vals [.int .i64], .ints .u8 8, .ints .u8 8]], [[.intsV .u8]]⟩
theorem q0q5 {α : Type} (N code_n code_l code_c h0_n : Nat) (h0 : NI) (K : AV -> Heap -> Option α) :
    callK Try.prog (q0q1 α N) 1 59 1 (buildS q0q3 [.n code_n, .n code_l, .n code_c, .n h0_n, .f h0]).t (buildS q0q3 [.n code_n, .n code_l, .n code_c, .n h0_n, .f h0]).h K = q053 none N code_n code_l code_c h0_n h0 (fun r_0_ r_1_ r_2_ => retK (buildS q0q4 [.i r_0_, .f r_1_, .f r_2_, .n h0_n, .f h0]) K) := by kernel_rfl
def q0q6 (α : Type) (N : Nat) : Env α := (q0q1 α N).addFun 59 true 1 q0q3 (fun l K => match l with
    | [.n code_n, .n code_l, .n code_c, .n h0_n, .f h0] => q053 none N code_n code_l code_c h0_n h0 (fun r_0_ r_1_ r_2_ => retK (buildS q0q4 [.i r_0_, .f r_1_, .f r_2_, .n h0_n, .f h0]) K)
    | _ => none)
theorem q0q7 {α : Type} (N : Nat) : EnvOk Try.prog (q0q6 α N) := (q0q2 N).addFun q05l q05m (d := 1) fun l K r h => by
  split at h
  · exact (q0q5 N _ _ _ _ _ K).trans h
  · cases h
def q0q8 (α : Type) (N : Nat) : Env α := (q0q6 α N).addAnn 22 4 { head := [0, 1, 5], grow := [], out := [], ret := [4] }
theorem q0q9 {α : Type} (N : Nat) : EnvOk Try.prog (q0q8 α N) := (q0q7 N).addAnn
def q0qa : SPat := ⟨[.nils, .nils, .undef, .undef, .undef, .int .i64] ++ List.replicate 21 .undef, []⟩
def q0qb : SPat := ⟨[] ++ List.replicate 27 .undef, []⟩
theorem q0qc {α : Type} (N : Nat) (i : Int) (kn : St -> Option α) (K : AExit -> St -> Option α) :
    roundK Try.prog (q0q8 α N) 1 0 22 Try.f22 4 0 (buildS q0qa [.i i]) kn K = q02w none i  (kn (buildS q0qa [.i i])) (K (.exit 0) (buildS q0qb [])) := by kernel_rfl
theorem q0qd {α : Type} (N : Nat) (i : Int) (K : AExit -> St -> Option α) : ∀ (m : Nat),
    loopN (trimSt ((q0q8 α N).ann 22 4).head ((q0q8 α N).ann 22 4).grow 0) (bodyK Try.prog (q0q8 α N) 1 0 22 Try.f22 4) m (buildS q0qa [.i i]) (leaveLoop ((q0q8 α N).ann 22 4) 0 K) = q02x none i m  (K (.exit 0) (buildS q0qb [])) := by
  intro m
  induction m with
  | zero => intros; rfl
  | succ m ih =>
    rw [loopN_round]
    refine (q0qc N i _ K).trans ?_
    simp only [ih]
    rfl
def q0qe (α : Type) (N : Nat) : Env α := (q0q8 α N).addLoop2 22 4 (loopSum2 ((q0q8 α N).ann 22 4) 0 q0qa (fun l K => match l with
    | [.i i] => q02x none i N  (K (.exit 0) (buildS q0qb []))
    | _ => none) ((q0q8 α N).ls 22 4))
theorem q0qf {α : Type} (N : Nat) : EnvOk Try.prog (q0qe α N) := (q0q9 N).addLoop2 Try.func22 (by kernel_rfl) (loopSum_ok q05l q05m (q0q9 N) Try.func22 (by kernel_rfl) (d := 1) (ro := 0) fun l K r h => by
  split at h
  · exact (q0qd N _ K N ).trans h
  · cases h)
def q0qg : SPat := ⟨[.nils, .nils], []⟩
def q0qh : SPat := ⟨[.bool], []⟩
theorem q0qi {α : Type} (N : Nat)  (K : AV -> Heap -> Option α) :
    callK Try.prog (q0qe α N) 1 22 0 (buildS q0qg []).t (buildS q0qg []).h K = q02y none N  (fun r__ => retK (buildS q0qh [.b r__]) K) := by kernel_rfl
def q0qj (α : Type) (N : Nat) : Env α := (q0qe α N).addFun 22 true 0 q0qg (fun l K => match l with
    | [] => q02y none N  (fun r__ => retK (buildS q0qh [.b r__]) K)
    | _ => none)
theorem q0qk {α : Type} (N : Nat) : EnvOk Try.prog (q0qj α N) := (q0qf N).addFun q05l q05m (d := 1) fun l K r h => by
  split at h
  · exact (q0qi N  K).trans h
  · cases h
def q0ql (α : Type) (N : Nat) : Env α := (q0qj α N).addAnn 7 15 { head := [3, 4, 5, 6, 8, 12, 16, 20], grow := [], out := [3, 4, 5, 8, 12, 16], ret := [2] }
theorem q0qm {α : Type} (N : Nat) : EnvOk Try.prog (q0ql α N) := (q0qk N).addAnn
def q0qn : SPat := ⟨[.undef, .undef, .undef, .ptr ⟨⟨1, 0⟩, 0, 0, 1⟩, .nils, .intC .i64 1, .nils, .undef, .intC .i64 0, .undef, .undef, .undef, .nils, .undef, .undef, .undef, .nils, .undef, .undef, .undef, .int .i64] ++ List.replicate 280 .undef, [[.intsV .u8], [.vals [.int .i64], .ints .u8 8, .ints .u8 8]]⟩
def q0qo : SPat := ⟨[.undef, .undef, .undef, .ptr ⟨⟨1, 0⟩, 0, 0, 1⟩, .nils, .intC .i64 1, .undef, .undef, .intC .i64 0, .undef, .undef, .undef, .nils, .undef, .undef, .undef, .nils] ++ List.replicate 284 .undef, [[.intsV .u8], [.vals [.int .i64], .ints .u8 8, .ints .u8 8]]⟩
theorem q0qp {α : Type} (N : Nat) (t20 : Int) (h0_n : Nat) (h0 : NI) (h1_0 : Int) (h1_1 h1_2 : NI) (kn : St -> Option α) (K : AExit -> St -> Option α) :
    roundK Try.prog (q0ql α N) 1 1 7 Try.f7 15 2 (buildS q0qn [.i t20, .n h0_n, .f h0, .i h1_0, .f h1_1, .f h1_2]) kn K = q054 none t20 h0_n h0 h1_0 h1_1 h1_2  (kn (buildS q0qn [.i t20, .n h0_n, .f h0, .i h1_0, .f h1_1, .f h1_2])) (K (.exit 0) (buildS q0qo [.n h0_n, .f h0, .i h1_0, .f h1_1, .f h1_2])) := by kernel_rfl
theorem q0qq {α : Type} (N : Nat) (t20 : Int) (h0_n : Nat) (h0 : NI) (h1_0 : Int) (h1_1 h1_2 : NI) (K : AExit -> St -> Option α) : ∀ (m : Nat),
    loopN (trimSt ((q0ql α N).ann 7 15).head ((q0ql α N).ann 7 15).grow 2) (bodyK Try.prog (q0ql α N) 1 1 7 Try.f7 15) m (buildS q0qn [.i t20, .n h0_n, .f h0, .i h1_0, .f h1_1, .f h1_2]) (leaveLoop ((q0ql α N).ann 7 15) 2 K) = q055 none t20 h0_n h0 h1_0 h1_1 h1_2 m  (K (.exit 0) (buildS q0qo [.n h0_n, .f h0, .i h1_0, .f h1_1, .f h1_2])) := by
  intro m
  induction m with
  | zero => intros; rfl
  | succ m ih =>
    rw [loopN_round]
    refine (q0qp N t20 h0_n h0 h1_0 h1_1 h1_2 _ K).trans ?_
    simp only [ih]
    rfl
def q0qr (α : Type) (N : Nat) : Env α := (q0ql α N).addLoop2 7 15 (loopSum2 ((q0ql α N).ann 7 15) 1 q0qn (fun l K => match l with
    | [.i t20, .n h0_n, .f h0, .i h1_0, .f h1_1, .f h1_2] => q055 none t20 h0_n h0 h1_0 h1_1 h1_2 N  (K (.exit 0) (buildS q0qo [.n h0_n, .f h0, .i h1_0, .f h1_1, .f h1_2]))
    | _ => none) ((q0ql α N).ls 7 15))
theorem q0qs {α : Type} (N : Nat) : EnvOk Try.prog (q0qr α N) := (q0qm N).addLoop2 Try.func7 (by kernel_rfl) (loopSum_ok q05l q05m (q0qm N) Try.func7 (by kernel_rfl) (d := 1) (ro := 1) fun l K r h => by
  split at h
  · exact (q0qq N _ _ _ _ _ _ K N ).trans h
  · cases h)
def q0qt (α : Type) (N : Nat) : Env α := (q0qr α N).addAnn 76 4 { head := [0, 1, 5], grow := [], out := [], ret := [4] }
theorem q0qu {α : Type} (N : Nat) : EnvOk Try.prog (q0qt α N) := (q0qs N).addAnn
def q0qv : SPat := ⟨[.sliceR 0 1 false, .sliceR 1 1 false, .undef, .undef, .undef, .int .i64] ++ List.replicate 20 .undef, [[.pool .i64], [.pool .i64]]⟩
def q0qw : SPat := ⟨[.undef, .undef, .undef, .undef, .boolC false] ++ List.replicate 21 .undef, [[.pool .i64], [.pool .i64]]⟩
def q0qx : SPat := ⟨[] ++ List.replicate 26 .undef, [[.pool .i64], [.pool .i64]]⟩
theorem q0qy {α : Type} (N a_r a_o a_n a_l a_c b_r b_o b_n b_l b_c : Nat) (i : Int) (h0 h1 : List (List Int)) (kn : St -> Option α) (K : AExit -> St -> Option α) :
    roundK Try.prog (q0qt α N) 1 2 76 Try.f76 4 2 (buildS q0qv [.n a_r, .n a_o, .n a_n, .n a_l, .n a_c, .n b_r, .n b_o, .n b_n, .n b_l, .n b_c, .i i, .r h0, .r h1]) kn K = q02z none a_r a_o a_n a_l a_c b_r b_o b_n b_l b_c h0 h1 i (fun i => kn (buildS q0qv [.n a_r, .n a_o, .n a_n, .n a_l, .n a_c, .n b_r, .n b_o, .n b_n, .n b_l, .n b_c, .i i, .r h0, .r h1])) (K .ret (buildS q0qw [.r h0, .r h1])) (K (.exit 0) (buildS q0qx [.r h0, .r h1])) := by kernel_rfl
theorem q0qz {α : Type} (N a_r a_o a_n a_l a_c b_r b_o b_n b_l b_c : Nat) (h0 h1 : List (List Int)) (K : AExit -> St -> Option α) : ∀ (m : Nat) (i : Int),
    loopN (trimSt ((q0qt α N).ann 76 4).head ((q0qt α N).ann 76 4).grow 2) (bodyK Try.prog (q0qt α N) 1 2 76 Try.f76 4) m (buildS q0qv [.n a_r, .n a_o, .n a_n, .n a_l, .n a_c, .n b_r, .n b_o, .n b_n, .n b_l, .n b_c, .i i, .r h0, .r h1]) (leaveLoop ((q0qt α N).ann 76 4) 2 K) = q030 none a_r a_o a_n a_l a_c b_r b_o b_n b_l b_c h0 h1 m i (K .ret (buildS q0qw [.r h0, .r h1])) (K (.exit 0) (buildS q0qx [.r h0, .r h1])) := by
  intro m
  induction m with
  | zero => intros; rfl
  | succ m ih =>
    intro i
    rw [loopN_round]
    refine (q0qy N a_r a_o a_n a_l a_c b_r b_o b_n b_l b_c i h0 h1 _ K).trans ?_
    simp only [ih]
    rfl
def q0r0 (α : Type) (N : Nat) : Env α := (q0qt α N).addLoop2 76 4 (loopSum2 ((q0qt α N).ann 76 4) 2 q0qv (fun l K => match l with
    | [.n a_r, .n a_o, .n a_n, .n a_l, .n a_c, .n b_r, .n b_o, .n b_n, .n b_l, .n b_c, .i i, .r h0, .r h1] => q030 none a_r a_o a_n a_l a_c b_r b_o b_n b_l b_c h0 h1 N i (K .ret (buildS q0qw [.r h0, .r h1])) (K (.exit 0) (buildS q0qx [.r h0, .r h1]))
    | _ => none) ((q0qt α N).ls 76 4))
theorem q0r1 {α : Type} (N : Nat) : EnvOk Try.prog (q0r0 α N) := (q0qu N).addLoop2 Try.func76 (by kernel_rfl) (loopSum_ok q05l q05m (q0qu N) Try.func76 (by kernel_rfl) (d := 1) (ro := 2) fun l K r h => by
  split at h
  · exact (q0qz N _ _ _ _ _ _ _ _ _ _ _ _ K N _).trans h
  · cases h)
def q0r2 : SPat := ⟨[.sliceR 0 1 false, .sliceR 1 1 false], [[.pool .i64], [.pool .i64]]⟩
def q0r3 : SPat := ⟨[.bool], [[.pool .i64], [.pool .i64]]⟩
theorem q0r4 {α : Type} (N a_r a_o a_n a_l a_c b_r b_o b_n b_l b_c : Nat) (h0 h1 : List (List Int)) (K : AV -> Heap -> Option α) :
    callK Try.prog (q0r0 α N) 1 76 2 (buildS q0r2 [.n a_r, .n a_o, .n a_n, .n a_l, .n a_c, .n b_r, .n b_o, .n b_n, .n b_l, .n b_c, .r h0, .r h1]).t (buildS q0r2 [.n a_r, .n a_o, .n a_n, .n a_l, .n a_c, .n b_r, .n b_o, .n b_n, .n b_l, .n b_c, .r h0, .r h1]).h K = q031 none N a_r a_o a_n a_l a_c b_r b_o b_n b_l b_c h0 h1 (fun r__ => retK (buildS q0r3 [.b r__, .r h0, .r h1]) K) := by kernel_rfl
def q0r5 (α : Type) (N : Nat) : Env α := (q0r0 α N).addFun 76 true 2 q0r2 (fun l K => match l with
    | [.n a_r, .n a_o, .n a_n, .n a_l, .n a_c, .n b_r, .n b_o, .n b_n, .n b_l, .n b_c, .r h0, .r h1] => q031 none N a_r a_o a_n a_l a_c b_r b_o b_n b_l b_c h0 h1 (fun r__ => retK (buildS q0r3 [.b r__, .r h0, .r h1]) K)
    | _ => none)
theorem q0r6 {α : Type} (N : Nat) : EnvOk Try.prog (q0r5 α N) := (q0r1 N).addFun q05l q05m (d := 1) fun l K r h => by
  split at h
  · exact (q0r4 N _ _ _ _ _ _ _ _ _ _ _ _ K).trans h
  · cases h
def q0r7 : SPat := ⟨[.sliceV 0 0 0 1 false, .sliceV 1 0 0 1 false, .undef, .undef, .undef, .int .i64] ++ List.replicate 21 .undef, [[.hdr 2], [.hdr 3], [.pool .i64], [.pool .i64]]⟩
def q0r8 : SPat := ⟨[.undef, .undef, .undef, .undef, .boolC false] ++ List.replicate 22 .undef, [[.hdr 2], [.hdr 3], [.pool .i64], [.pool .i64]]⟩
def q0r9 : SPat := ⟨[] ++ List.replicate 27 .undef, [[.hdr 2], [.hdr 3], [.pool .i64], [.pool .i64]]⟩
theorem q0ra {α : Type} (N a_n a_l a_c b_n b_l b_c : Nat) (i : Int) (h0 h1 : List (Nat × Nat)) (h2 h3 : List (List Int)) (kn : St -> Option α) (K : AExit -> St -> Option α) :
    roundK Try.prog (q0r5 α N) 1 4 22 Try.f22 4 4 (buildS q0r7 [.n a_n, .n a_l, .n a_c, .n b_n, .n b_l, .n b_c, .i i, .p h0, .p h1, .r h2, .r h3]) kn K = q056 none N a_n a_l a_c b_n b_l b_c h0 h1 h2 h3 i (fun i => kn (buildS q0r7 [.n a_n, .n a_l, .n a_c, .n b_n, .n b_l, .n b_c, .i i, .p h0, .p h1, .r h2, .r h3])) (K .ret (buildS q0r8 [.p h0, .p h1, .r h2, .r h3])) (K (.exit 0) (buildS q0r9 [.p h0, .p h1, .r h2, .r h3])) := by kernel_rfl
theorem q0rb {α : Type} (N a_n a_l a_c b_n b_l b_c : Nat) (h0 h1 : List (Nat × Nat)) (h2 h3 : List (List Int)) (K : AExit -> St -> Option α) : ∀ (m : Nat) (i : Int),
    loopN (trimSt ((q0r5 α N).ann 22 4).head ((q0r5 α N).ann 22 4).grow 4) (bodyK Try.prog (q0r5 α N) 1 4 22 Try.f22 4) m (buildS q0r7 [.n a_n, .n a_l, .n a_c, .n b_n, .n b_l, .n b_c, .i i, .p h0, .p h1, .r h2, .r h3]) (leaveLoop ((q0r5 α N).ann 22 4) 4 K) = q057 none N a_n a_l a_c b_n b_l b_c h0 h1 h2 h3 m i (K .ret (buildS q0r8 [.p h0, .p h1, .r h2, .r h3])) (K (.exit 0) (buildS q0r9 [.p h0, .p h1, .r h2, .r h3])) := by
  intro m
  induction m with
  | zero => intros; rfl
  | succ m ih =>
    intro i
    rw [loopN_round]
    refine (q0ra N a_n a_l a_c b_n b_l b_c i h0 h1 h2 h3 _ K).trans ?_
    simp only [ih]
    rfl
def q0rc (α : Type) (N : Nat) : Env α := (q0r5 α N).addLoop2 22 4 (loopSum2 ((q0r5 α N).ann 22 4) 4 q0r7 (fun l K => match l with
    | [.n a_n, .n a_l, .n a_c, .n b_n, .n b_l, .n b_c, .i i, .p h0, .p h1, .r h2, .r h3] => q057 none N a_n a_l a_c b_n b_l b_c h0 h1 h2 h3 N i (K .ret (buildS q0r8 [.p h0, .p h1, .r h2, .r h3])) (K (.exit 0) (buildS q0r9 [.p h0, .p h1, .r h2, .r h3]))
    | _ => none) ((q0r5 α N).ls 22 4))
theorem q0rd {α : Type} (N : Nat) : EnvOk Try.prog (q0rc α N) := (q0r6 N).addLoop2 Try.func22 (by kernel_rfl) (loopSum_ok q05l q05m (q0r6 N) Try.func22 (by kernel_rfl) (d := 1) (ro := 4) fun l K r h => by
  split at h
  · exact (q0rb N _ _ _ _ _ _ _ _ _ _ K N _).trans h
  · cases h)
def q0re : SPat := ⟨[.sliceV 0 0 0 1 false, .sliceV 1 0 0 1 false], [[.hdr 2], [.hdr 3], [.pool .i64], [.pool .i64]]⟩
def q0rf : SPat := ⟨[.bool], [[.hdr 2], [.hdr 3], [.pool .i64], [.pool .i64]]⟩
theorem q0rg {α : Type} (N a_n a_l a_c b_n b_l b_c : Nat) (h0 h1 : List (Nat × Nat)) (h2 h3 : List (List Int)) (K : AV -> Heap -> Option α) :
    callK Try.prog (q0rc α N) 1 22 4 (buildS q0re [.n a_n, .n a_l, .n a_c, .n b_n, .n b_l, .n b_c, .p h0, .p h1, .r h2, .r h3]).t (buildS q0re [.n a_n, .n a_l, .n a_c, .n b_n, .n b_l, .n b_c, .p h0, .p h1, .r h2, .r h3]).h K = q058 none N a_n a_l a_c b_n b_l b_c h0 h1 h2 h3 (fun r__ => retK (buildS q0rf [.b r__, .p h0, .p h1, .r h2, .r h3]) K) := by kernel_rfl
def q0rh (α : Type) (N : Nat) : Env α := (q0rc α N).addFun 22 true 4 q0re (fun l K => match l with
    | [.n a_n, .n a_l, .n a_c, .n b_n, .n b_l, .n b_c, .p h0, .p h1, .r h2, .r h3] => q058 none N a_n a_l a_c b_n b_l b_c h0 h1 h2 h3 (fun r__ => retK (buildS q0rf [.b r__, .p h0, .p h1, .r h2, .r h3]) K)
    | _ => none)
theorem q0ri {α : Type} (N : Nat) : EnvOk Try.prog (q0rh α N) := (q0rd N).addFun q05l q05m (d := 1) fun l K r h => by
  split at h
  · exact (q0rg N _ _ _ _ _ _ _ _ _ _ K).trans h
  · cases h
end Go.AM
