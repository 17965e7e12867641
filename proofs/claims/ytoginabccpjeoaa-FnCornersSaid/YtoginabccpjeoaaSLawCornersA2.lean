/- A part of a proof about the given program: an abstract machine, what the given functions come to, and plain laws. -/
import Derived.Test.YtoginabccpjeoaaSLawCornersA
set_option linter.unusedVariables false
set_option linter.unusedSimpArgs false
set_option maxRecDepth 100000
namespace Go.AM
open Go.Proofs
def s_l01Mixed_l1_s2_p : SPat := ⟨[.ptr ⟨⟨1, 0⟩, 0, 0, 3⟩, .undef, .undef, .undef, .ptr ⟨⟨2, 0⟩, 0, 0, 8⟩, .ptr ⟨⟨3, 0⟩, 0, 0, 8⟩, .undef, .int .i64] ++ List.replicate 34 .undef, [[.intsV .u8], [.vals [.sliceV 0 0 0 1 false, .int .i64, .int .u64]], [.ints .u8 8], [.ints .u8 8]]⟩
def s_l01Mixed_l1_s2_o0 : SPat := ⟨[.undef, .undef, .undef, .undef, .ptr ⟨⟨2, 0⟩, 0, 0, 8⟩, .ptr ⟨⟨3, 0⟩, 0, 0, 8⟩] ++ List.replicate 36 .undef, [[.intsV .u8], [.vals [.sliceV 0 0 0 1 false, .int .i64, .int .u64]], [.ints .u8 8], [.ints .u8 8]]⟩
theorem s_l01Mixed_l1_s2_round {α : Type} (N : Nat) (i : Int) (h0_n : Nat) (h0 : NI) (h1_0_n : Nat) (h1_0_l : Nat) (h1_0_c : Nat) (h1_1 : Int) (h1_2 : Int) (h2 : NI) (h3 : NI) (kn : St -> Option α) (K : AExit -> St -> Option α) :
    roundK Try.prog (A_s_l01Mixed_l1 α N) 1 1 197 Try.f197 7 4 (buildS s_l01Mixed_l1_s2_p [.i i, .n h0_n, .f h0, .n h1_0_n, .n h1_0_l, .n h1_0_c, .i h1_1, .i h1_2, .f h2, .f h3]) kn K = s_l01Mixed_l1_s2_s none N h0_n h0 h1_0_n h1_0_l h1_0_c h2 i h1_1 h1_2 h3 (fun i h1_1 h1_2 h3 => kn (buildS s_l01Mixed_l1_s2_p [.i i, .n h0_n, .f h0, .n h1_0_n, .n h1_0_l, .n h1_0_c, .i h1_1, .i h1_2, .f h2, .f h3])) (fun h1_1_ h1_2_ h3_ => K (.exit 2) (buildS s_l01Mixed_l1_s2_o0 [.n h0_n, .f h0, .n h1_0_n, .n h1_0_l, .n h1_0_c, .i h1_1_, .i h1_2_, .f h2, .f h3_])) := by kernel_rfl
theorem s_l01Mixed_l1_s2_loop {α : Type} (N : Nat) (h0_n : Nat) (h0 : NI) (h1_0_n : Nat) (h1_0_l : Nat) (h1_0_c : Nat) (h2 : NI) (K : AExit -> St -> Option α) : ∀ (m : Nat) (i : Int) (h1_1 : Int) (h1_2 : Int) (h3 : NI),
    loopN (trimSt ((A_s_l01Mixed_l1 α N).ann 197 7).head ((A_s_l01Mixed_l1 α N).ann 197 7).grow 4) (bodyK Try.prog (A_s_l01Mixed_l1 α N) 1 1 197 Try.f197 7) m (buildS s_l01Mixed_l1_s2_p [.i i, .n h0_n, .f h0, .n h1_0_n, .n h1_0_l, .n h1_0_c, .i h1_1, .i h1_2, .f h2, .f h3]) (leaveLoop ((A_s_l01Mixed_l1 α N).ann 197 7) 4 K) = s_l01Mixed_l1_s2 none N h0_n h0 h1_0_n h1_0_l h1_0_c h2 m i h1_1 h1_2 h3 (fun h1_1_ h1_2_ h3_ => K (.exit 2) (buildS s_l01Mixed_l1_s2_o0 [.n h0_n, .f h0, .n h1_0_n, .n h1_0_l, .n h1_0_c, .i h1_1_, .i h1_2_, .f h2, .f h3_])) := by
  intro m
  induction m with
  | zero => intros; rfl
  | succ m ih =>
    intro i h1_1 h1_2 h3
    rw [loopN_round]
    refine (s_l01Mixed_l1_s2_round N i h0_n h0 h1_0_n h1_0_l h1_0_c h1_1 h1_2 h2 h3 _ K).trans ?_
    simp only [ih]
    rfl
def E_s_l01Mixed_l1_s2 (α : Type) (N : Nat) : Env α := (A_s_l01Mixed_l1 α N).addLoop2 197 7 (loopSum2 ((A_s_l01Mixed_l1 α N).ann 197 7) 1 s_l01Mixed_l1_s2_p (fun l K => match l with
    | [.i i, .n h0_n, .f h0, .n h1_0_n, .n h1_0_l, .n h1_0_c, .i h1_1, .i h1_2, .f h2, .f h3] => s_l01Mixed_l1_s2 none N h0_n h0 h1_0_n h1_0_l h1_0_c h2 N i h1_1 h1_2 h3 (fun h1_1_ h1_2_ h3_ => K (.exit 2) (buildS s_l01Mixed_l1_s2_o0 [.n h0_n, .f h0, .n h1_0_n, .n h1_0_l, .n h1_0_c, .i h1_1_, .i h1_2_, .f h2, .f h3_]))
    | _ => none) ((A_s_l01Mixed_l1 α N).ls 197 7))
theorem E_s_l01Mixed_l1_s2_ok {α : Type} (N : Nat) : EnvOk Try.prog (E_s_l01Mixed_l1_s2 α N) := (A_s_l01Mixed_l1_ok N).addLoop2 Try.func197 (by kernel_rfl) (loopSum_ok prog_mixed prog_names (A_s_l01Mixed_l1_ok N) Try.func197 (by kernel_rfl) (d := 1) (ro := 1) fun l K r h => by
  split at h
  · exact (s_l01Mixed_l1_s2_loop N _ _ _ _ _ _ K N _ _ _ _).trans h
  · cases h)
def s_l01Mixed_s2_a : SPat := ⟨[.ptr ⟨⟨1, 0⟩, 0, 0, 3⟩, .int .i64], [[.intsV .u8], [.vals [.sliceV 0 0 0 1 false, .int .i64, .int .u64]]]⟩
def s_l01Mixed_s2_r0 : SPat := ⟨[.agg [.ints .u8 8]], [[.intsV .u8], [.vals [.sliceV 0 0 0 1 false, .int .i64, .int .u64]]]⟩
theorem s_l01Mixed_s2_run {α : Type} (N : Nat) (n : Int) (h0_n : Nat) (h0 : NI) (h1_0_n : Nat) (h1_0_l : Nat) (h1_0_c : Nat) (h1_1 : Int) (h1_2 : Int) (K : AV -> Heap -> Option α) :
    callK Try.prog (E_s_l01Mixed_l1_s2 α N) 1 197 1 (buildS s_l01Mixed_s2_a [.i n, .n h0_n, .f h0, .n h1_0_n, .n h1_0_l, .n h1_0_c, .i h1_1, .i h1_2]).t (buildS s_l01Mixed_s2_a [.i n, .n h0_n, .f h0, .n h1_0_n, .n h1_0_l, .n h1_0_c, .i h1_1, .i h1_2]).h K = s_l01Mixed_s2 none N n h0_n h0 h1_0_n h1_0_l h1_0_c h1_1 h1_2 (fun r__ h1_1_ h1_2_ => retK (buildS s_l01Mixed_s2_r0 [.f r__, .n h0_n, .f h0, .n h1_0_n, .n h1_0_l, .n h1_0_c, .i h1_1_, .i h1_2_]) K) := by kernel_rfl
def E_s_l01Mixed_s2 (α : Type) (N : Nat) : Env α := (E_s_l01Mixed_l1_s2 α N).addFun 197 false 1 s_l01Mixed_s2_a (fun l K => match l with
    | [.i n, .n h0_n, .f h0, .n h1_0_n, .n h1_0_l, .n h1_0_c, .i h1_1, .i h1_2] => s_l01Mixed_s2 none N n h0_n h0 h1_0_n h1_0_l h1_0_c h1_1 h1_2 (fun r__ h1_1_ h1_2_ => retK (buildS s_l01Mixed_s2_r0 [.f r__, .n h0_n, .f h0, .n h1_0_n, .n h1_0_l, .n h1_0_c, .i h1_1_, .i h1_2_]) K)
    | _ => none)
theorem E_s_l01Mixed_s2_ok {α : Type} (N : Nat) : EnvOk Try.prog (E_s_l01Mixed_s2 α N) := (E_s_l01Mixed_l1_s2_ok N).addFun prog_mixed prog_names (d := 1) fun l K r h => by
  split at h
  · exact (s_l01Mixed_s2_run N _ _ _ _ _ _ _ _ K).trans h
  · cases h
def A_s_l01DrawSize_l0 (α : Type) (N : Nat) : Env α := (E_s_l01Mixed_s2 α N).addAnn 122 3 { head := [1, 4, 5, 6, 7], grow := [], out := [1, 4, 5, 6], ret := [4] }
theorem A_s_l01DrawSize_l0_ok {α : Type} (N : Nat) : EnvOk Try.prog (A_s_l01DrawSize_l0 α N) := (E_s_l01Mixed_s2_ok N).addAnn
def s_l01DrawSize_l0_s2_p : SPat := ⟨[.undef, .int .i64, .undef, .undef, .ptr ⟨⟨2, 0⟩, 0, 0, 1⟩, .ptr ⟨⟨3, 0⟩, 0, 0, 8⟩, .ptr ⟨⟨4, 0⟩, 0, 0, 8⟩, .int .i64] ++ List.replicate 66 .undef, [[.intsV .u8], [.vals [.sliceV 0 0 0 1 false, .int .i64, .int .u64]], [.vals [.int .i64], .ints .u8 8, .ints .u8 8], [.ints .u8 8], [.ints .u8 8]]⟩
def s_l01DrawSize_l0_s2_o0 : SPat := ⟨[.undef, .int .i64, .undef, .undef, .ptr ⟨⟨2, 0⟩, 0, 0, 1⟩, .ptr ⟨⟨3, 0⟩, 0, 0, 8⟩, .ptr ⟨⟨4, 0⟩, 0, 0, 8⟩] ++ List.replicate 67 .undef, [[.intsV .u8], [.vals [.sliceV 0 0 0 1 false, .int .i64, .int .u64]], [.vals [.int .i64], .ints .u8 8, .ints .u8 8], [.ints .u8 8], [.ints .u8 8]]⟩
theorem s_l01DrawSize_l0_s2_round {α : Type} (N : Nat) (t1 : Int) (t7 : Int) (h0_n : Nat) (h0 : NI) (h1_0_n : Nat) (h1_0_l : Nat) (h1_0_c : Nat) (h1_1 : Int) (h1_2 : Int) (h2_0 : Int) (h2_1 : NI) (h2_2 : NI) (h3 : NI) (h4 : NI) (kn : St -> Option α) (K : AExit -> St -> Option α) :
    roundK Try.prog (A_s_l01DrawSize_l0 α N) 1 1 122 Try.f122 3 5 (buildS s_l01DrawSize_l0_s2_p [.i t1, .i t7, .n h0_n, .f h0, .n h1_0_n, .n h1_0_l, .n h1_0_c, .i h1_1, .i h1_2, .i h2_0, .f h2_1, .f h2_2, .f h3, .f h4]) kn K = s_l01DrawSize_l0_s2_s none t1 h0_n h0 h1_0_n h1_0_l h1_0_c h1_1 h1_2 h2_0 h2_1 h2_2 h3 t7 h4 (fun t7 h4 => kn (buildS s_l01DrawSize_l0_s2_p [.i t1, .i t7, .n h0_n, .f h0, .n h1_0_n, .n h1_0_l, .n h1_0_c, .i h1_1, .i h1_2, .i h2_0, .f h2_1, .f h2_2, .f h3, .f h4])) (fun h4_ => K (.exit 0) (buildS s_l01DrawSize_l0_s2_o0 [.i t1, .n h0_n, .f h0, .n h1_0_n, .n h1_0_l, .n h1_0_c, .i h1_1, .i h1_2, .i h2_0, .f h2_1, .f h2_2, .f h3, .f h4_])) := by kernel_rfl
theorem s_l01DrawSize_l0_s2_loop {α : Type} (N : Nat) (t1 : Int) (h0_n : Nat) (h0 : NI) (h1_0_n : Nat) (h1_0_l : Nat) (h1_0_c : Nat) (h1_1 : Int) (h1_2 : Int) (h2_0 : Int) (h2_1 : NI) (h2_2 : NI) (h3 : NI) (K : AExit -> St -> Option α) : ∀ (m : Nat) (t7 : Int) (h4 : NI),
    loopN (trimSt ((A_s_l01DrawSize_l0 α N).ann 122 3).head ((A_s_l01DrawSize_l0 α N).ann 122 3).grow 5) (bodyK Try.prog (A_s_l01DrawSize_l0 α N) 1 1 122 Try.f122 3) m (buildS s_l01DrawSize_l0_s2_p [.i t1, .i t7, .n h0_n, .f h0, .n h1_0_n, .n h1_0_l, .n h1_0_c, .i h1_1, .i h1_2, .i h2_0, .f h2_1, .f h2_2, .f h3, .f h4]) (leaveLoop ((A_s_l01DrawSize_l0 α N).ann 122 3) 5 K) = s_l01DrawSize_l0_s2 none t1 h0_n h0 h1_0_n h1_0_l h1_0_c h1_1 h1_2 h2_0 h2_1 h2_2 h3 m t7 h4 (fun h4_ => K (.exit 0) (buildS s_l01DrawSize_l0_s2_o0 [.i t1, .n h0_n, .f h0, .n h1_0_n, .n h1_0_l, .n h1_0_c, .i h1_1, .i h1_2, .i h2_0, .f h2_1, .f h2_2, .f h3, .f h4_])) := by
  intro m
  induction m with
  | zero => intros; rfl
  | succ m ih =>
    intro t7 h4
    rw [loopN_round]
    refine (s_l01DrawSize_l0_s2_round N t1 t7 h0_n h0 h1_0_n h1_0_l h1_0_c h1_1 h1_2 h2_0 h2_1 h2_2 h3 h4 _ K).trans ?_
    simp only [ih]
    rfl
def E_s_l01DrawSize_l0_s2 (α : Type) (N : Nat) : Env α := (A_s_l01DrawSize_l0 α N).addLoop2 122 3 (loopSum2 ((A_s_l01DrawSize_l0 α N).ann 122 3) 1 s_l01DrawSize_l0_s2_p (fun l K => match l with
    | [.i t1, .i t7, .n h0_n, .f h0, .n h1_0_n, .n h1_0_l, .n h1_0_c, .i h1_1, .i h1_2, .i h2_0, .f h2_1, .f h2_2, .f h3, .f h4] => s_l01DrawSize_l0_s2 none t1 h0_n h0 h1_0_n h1_0_l h1_0_c h1_1 h1_2 h2_0 h2_1 h2_2 h3 N t7 h4 (fun h4_ => K (.exit 0) (buildS s_l01DrawSize_l0_s2_o0 [.i t1, .n h0_n, .f h0, .n h1_0_n, .n h1_0_l, .n h1_0_c, .i h1_1, .i h1_2, .i h2_0, .f h2_1, .f h2_2, .f h3, .f h4_]))
    | _ => none) ((A_s_l01DrawSize_l0 α N).ls 122 3))
theorem E_s_l01DrawSize_l0_s2_ok {α : Type} (N : Nat) : EnvOk Try.prog (E_s_l01DrawSize_l0_s2 α N) := (A_s_l01DrawSize_l0_ok N).addLoop2 Try.func122 (by kernel_rfl) (loopSum_ok prog_mixed prog_names (A_s_l01DrawSize_l0_ok N) Try.func122 (by kernel_rfl) (d := 1) (ro := 1) fun l K r h => by
  split at h
  · exact (s_l01DrawSize_l0_s2_loop N _ _ _ _ _ _ _ _ _ _ _ _ K N _ _).trans h
  · cases h)
def A_s_l01DrawSize_l1 (α : Type) (N : Nat) : Env α := (E_s_l01DrawSize_l0_s2 α N).addAnn 122 14 { head := [1, 4, 5, 11, 12], grow := [], out := [4, 11], ret := [4] }
theorem A_s_l01DrawSize_l1_ok {α : Type} (N : Nat) : EnvOk Try.prog (A_s_l01DrawSize_l1 α N) := (E_s_l01DrawSize_l0_s2_ok N).addAnn
def s_l01DrawSize_l1_s2_p : SPat := ⟨[.undef, .int .i64, .undef, .undef, .ptr ⟨⟨2, 0⟩, 0, 0, 1⟩, .ptr ⟨⟨3, 0⟩, 0, 0, 8⟩, .undef, .undef, .undef, .undef, .undef, .ptr ⟨⟨5, 0⟩, 0, 0, 1⟩, .int .i64] ++ List.replicate 61 .undef, [[.intsV .u8], [.vals [.sliceV 0 0 0 1 false, .int .i64, .int .u64]], [.vals [.int .i64], .ints .u8 8, .ints .u8 8], [.ints .u8 8], [.ints .u8 8], [.vals [.int .i64], .ints .u8 8, .ints .u8 8]]⟩
def s_l01DrawSize_l1_s2_o0 : SPat := ⟨[.undef, .undef, .undef, .undef, .ptr ⟨⟨2, 0⟩, 0, 0, 1⟩, .undef, .undef, .undef, .undef, .undef, .undef, .ptr ⟨⟨5, 0⟩, 0, 0, 1⟩] ++ List.replicate 62 .undef, [[.intsV .u8], [.vals [.sliceV 0 0 0 1 false, .int .i64, .int .u64]], [.vals [.int .i64], .ints .u8 8, .ints .u8 8], [.ints .u8 8], [.ints .u8 8], [.vals [.int .i64], .ints .u8 8, .ints .u8 8]]⟩
theorem s_l01DrawSize_l1_s2_round {α : Type} (N : Nat) (t1 : Int) (t12 : Int) (h0_n : Nat) (h0 : NI) (h1_0_n : Nat) (h1_0_l : Nat) (h1_0_c : Nat) (h1_1 : Int) (h1_2 : Int) (h2_0 : Int) (h2_1 : NI) (h2_2 : NI) (h3 : NI) (h4 : NI) (h5_0 : Int) (h5_1 : NI) (h5_2 : NI) (kn : St -> Option α) (K : AExit -> St -> Option α) :
    roundK Try.prog (A_s_l01DrawSize_l1 α N) 1 1 122 Try.f122 14 6 (buildS s_l01DrawSize_l1_s2_p [.i t1, .i t12, .n h0_n, .f h0, .n h1_0_n, .n h1_0_l, .n h1_0_c, .i h1_1, .i h1_2, .i h2_0, .f h2_1, .f h2_2, .f h3, .f h4, .i h5_0, .f h5_1, .f h5_2]) kn K = s_l01DrawSize_l1_s2_s none t1 h0_n h0 h1_0_n h1_0_l h1_0_c h1_1 h1_2 h2_0 h2_1 h2_2 h3 h4 h5_0 h5_1 t12 h5_2 (fun t12 h5_2 => kn (buildS s_l01DrawSize_l1_s2_p [.i t1, .i t12, .n h0_n, .f h0, .n h1_0_n, .n h1_0_l, .n h1_0_c, .i h1_1, .i h1_2, .i h2_0, .f h2_1, .f h2_2, .f h3, .f h4, .i h5_0, .f h5_1, .f h5_2])) (fun h5_2_ => K (.exit 2) (buildS s_l01DrawSize_l1_s2_o0 [.n h0_n, .f h0, .n h1_0_n, .n h1_0_l, .n h1_0_c, .i h1_1, .i h1_2, .i h2_0, .f h2_1, .f h2_2, .f h3, .f h4, .i h5_0, .f h5_1, .f h5_2_])) := by kernel_rfl
theorem s_l01DrawSize_l1_s2_loop {α : Type} (N : Nat) (t1 : Int) (h0_n : Nat) (h0 : NI) (h1_0_n : Nat) (h1_0_l : Nat) (h1_0_c : Nat) (h1_1 : Int) (h1_2 : Int) (h2_0 : Int) (h2_1 : NI) (h2_2 : NI) (h3 : NI) (h4 : NI) (h5_0 : Int) (h5_1 : NI) (K : AExit -> St -> Option α) : ∀ (m : Nat) (t12 : Int) (h5_2 : NI),
    loopN (trimSt ((A_s_l01DrawSize_l1 α N).ann 122 14).head ((A_s_l01DrawSize_l1 α N).ann 122 14).grow 6) (bodyK Try.prog (A_s_l01DrawSize_l1 α N) 1 1 122 Try.f122 14) m (buildS s_l01DrawSize_l1_s2_p [.i t1, .i t12, .n h0_n, .f h0, .n h1_0_n, .n h1_0_l, .n h1_0_c, .i h1_1, .i h1_2, .i h2_0, .f h2_1, .f h2_2, .f h3, .f h4, .i h5_0, .f h5_1, .f h5_2]) (leaveLoop ((A_s_l01DrawSize_l1 α N).ann 122 14) 6 K) = s_l01DrawSize_l1_s2 none t1 h0_n h0 h1_0_n h1_0_l h1_0_c h1_1 h1_2 h2_0 h2_1 h2_2 h3 h4 h5_0 h5_1 m t12 h5_2 (fun h5_2_ => K (.exit 2) (buildS s_l01DrawSize_l1_s2_o0 [.n h0_n, .f h0, .n h1_0_n, .n h1_0_l, .n h1_0_c, .i h1_1, .i h1_2, .i h2_0, .f h2_1, .f h2_2, .f h3, .f h4, .i h5_0, .f h5_1, .f h5_2_])) := by
  intro m
  induction m with
  | zero => intros; rfl
  | succ m ih =>
    intro t12 h5_2
    rw [loopN_round]
    refine (s_l01DrawSize_l1_s2_round N t1 t12 h0_n h0 h1_0_n h1_0_l h1_0_c h1_1 h1_2 h2_0 h2_1 h2_2 h3 h4 h5_0 h5_1 h5_2 _ K).trans ?_
    simp only [ih]
    rfl
def E_s_l01DrawSize_l1_s2 (α : Type) (N : Nat) : Env α := (A_s_l01DrawSize_l1 α N).addLoop2 122 14 (loopSum2 ((A_s_l01DrawSize_l1 α N).ann 122 14) 1 s_l01DrawSize_l1_s2_p (fun l K => match l with
    | [.i t1, .i t12, .n h0_n, .f h0, .n h1_0_n, .n h1_0_l, .n h1_0_c, .i h1_1, .i h1_2, .i h2_0, .f h2_1, .f h2_2, .f h3, .f h4, .i h5_0, .f h5_1, .f h5_2] => s_l01DrawSize_l1_s2 none t1 h0_n h0 h1_0_n h1_0_l h1_0_c h1_1 h1_2 h2_0 h2_1 h2_2 h3 h4 h5_0 h5_1 N t12 h5_2 (fun h5_2_ => K (.exit 2) (buildS s_l01DrawSize_l1_s2_o0 [.n h0_n, .f h0, .n h1_0_n, .n h1_0_l, .n h1_0_c, .i h1_1, .i h1_2, .i h2_0, .f h2_1, .f h2_2, .f h3, .f h4, .i h5_0, .f h5_1, .f h5_2_]))
    | _ => none) ((A_s_l01DrawSize_l1 α N).ls 122 14))
theorem E_s_l01DrawSize_l1_s2_ok {α : Type} (N : Nat) : EnvOk Try.prog (E_s_l01DrawSize_l1_s2 α N) := (A_s_l01DrawSize_l1_ok N).addLoop2 Try.func122 (by kernel_rfl) (loopSum_ok prog_mixed prog_names (A_s_l01DrawSize_l1_ok N) Try.func122 (by kernel_rfl) (d := 1) (ro := 1) fun l K r h => by
  split at h
  · exact (s_l01DrawSize_l1_s2_loop N _ _ _ _ _ _ _ _ _ _ _ _ _ _ _ K N _ _).trans h
  · cases h)
def s_l01DrawSize_s2_a : SPat := ⟨[.ptr ⟨⟨1, 0⟩, 0, 0, 3⟩, .int .i64], [[.intsV .u8], [.vals [.sliceV 0 0 0 1 false, .int .i64, .int .u64]]]⟩
def s_l01DrawSize_s2_r0 : SPat := ⟨[.agg [.vals [.int .i64], .ints .u8 8, .ints .u8 8]], [[.intsV .u8], [.vals [.sliceV 0 0 0 1 false, .int .i64, .int .u64]]]⟩
theorem s_l01DrawSize_s2_run {α : Type} (N : Nat) (a1 : Int) (h0_n : Nat) (h0 : NI) (h1_0_n : Nat) (h1_0_l : Nat) (h1_0_c : Nat) (h1_1 : Int) (h1_2 : Int) (K : AV -> Heap -> Option α) :
    callK Try.prog (E_s_l01DrawSize_l1_s2 α N) 1 122 1 (buildS s_l01DrawSize_s2_a [.i a1, .n h0_n, .f h0, .n h1_0_n, .n h1_0_l, .n h1_0_c, .i h1_1, .i h1_2]).t (buildS s_l01DrawSize_s2_a [.i a1, .n h0_n, .f h0, .n h1_0_n, .n h1_0_l, .n h1_0_c, .i h1_1, .i h1_2]).h K = s_l01DrawSize_s2 none N a1 h0_n h0 h1_0_n h1_0_l h1_0_c h1_1 h1_2 (fun r_1_ r_2_ h1_1_ h1_2_ => retK (buildS s_l01DrawSize_s2_r0 [.i a1, .f r_1_, .f r_2_, .n h0_n, .f h0, .n h1_0_n, .n h1_0_l, .n h1_0_c, .i h1_1_, .i h1_2_]) K) := by kernel_rfl
def E_s_l01DrawSize_s2 (α : Type) (N : Nat) : Env α := (E_s_l01DrawSize_l1_s2 α N).addFun 122 false 1 s_l01DrawSize_s2_a (fun l K => match l with
    | [.i a1, .n h0_n, .f h0, .n h1_0_n, .n h1_0_l, .n h1_0_c, .i h1_1, .i h1_2] => s_l01DrawSize_s2 none N a1 h0_n h0 h1_0_n h1_0_l h1_0_c h1_1 h1_2 (fun r_1_ r_2_ h1_1_ h1_2_ => retK (buildS s_l01DrawSize_s2_r0 [.i a1, .f r_1_, .f r_2_, .n h0_n, .f h0, .n h1_0_n, .n h1_0_l, .n h1_0_c, .i h1_1_, .i h1_2_]) K)
    | _ => none)
theorem E_s_l01DrawSize_s2_ok {α : Type} (N : Nat) : EnvOk Try.prog (E_s_l01DrawSize_s2 α N) := (E_s_l01DrawSize_l1_s2_ok N).addFun prog_mixed prog_names (d := 1) fun l K r h => by
  split at h
  · exact (s_l01DrawSize_s2_run N _ _ _ _ _ _ _ _ K).trans h
  · cases h
def s_l01Pick_s4_a : SPat := ⟨[.ptr ⟨⟨1, 0⟩, 0, 0, 3⟩, .slice ⟨⟨2, 0⟩, 0, 0, 5⟩ 5 5 1 true], [[.intsV .u8], [.vals [.sliceV 0 0 0 1 false, .int .i64, .int .u64]], [.vec .i64]]⟩
def s_l01Pick_s4_r0 : SPat := ⟨[.int .i64], [[.intsV .u8], [.vals [.sliceV 0 0 0 1 false, .int .i64, .int .u64]], [.vec .i64]]⟩
theorem s_l01Pick_s4_run {α : Type} (N : Nat) (h0_n : Nat) (h0 : NI) (h1_0_n : Nat) (h1_0_l : Nat) (h1_0_c : Nat) (h1_1 : Int) (h1_2 : Int) (h2 : List Int) (K : AV -> Heap -> Option α) :
    callK Try.prog (E_s_l01DrawSize_s2 α N) 1 115 1 (buildS s_l01Pick_s4_a [.n h0_n, .f h0, .n h1_0_n, .n h1_0_l, .n h1_0_c, .i h1_1, .i h1_2, .l h2]).t (buildS s_l01Pick_s4_a [.n h0_n, .f h0, .n h1_0_n, .n h1_0_l, .n h1_0_c, .i h1_1, .i h1_2, .l h2]).h K = s_l01Pick_s4 none N h0_n h0 h1_0_n h1_0_l h1_0_c h1_1 h1_2 h2 (fun r__ h1_1_ h1_2_ => retK (buildS s_l01Pick_s4_r0 [.i r__, .n h0_n, .f h0, .n h1_0_n, .n h1_0_l, .n h1_0_c, .i h1_1_, .i h1_2_, .l h2]) K) := by kernel_rfl
def E_s_l01Pick_s4 (α : Type) (N : Nat) : Env α := (E_s_l01DrawSize_s2 α N).addFun 115 false 1 s_l01Pick_s4_a (fun l K => match l with
    | [.n h0_n, .f h0, .n h1_0_n, .n h1_0_l, .n h1_0_c, .i h1_1, .i h1_2, .l h2] => s_l01Pick_s4 none N h0_n h0 h1_0_n h1_0_l h1_0_c h1_1 h1_2 h2 (fun r__ h1_1_ h1_2_ => retK (buildS s_l01Pick_s4_r0 [.i r__, .n h0_n, .f h0, .n h1_0_n, .n h1_0_l, .n h1_0_c, .i h1_1_, .i h1_2_, .l h2]) K)
    | _ => none)
theorem E_s_l01Pick_s4_ok {α : Type} (N : Nat) : EnvOk Try.prog (E_s_l01Pick_s4 α N) := (E_s_l01DrawSize_s2_ok N).addFun prog_mixed prog_names (d := 1) fun l K r h => by
  split at h
  · exact (s_l01Pick_s4_run N _ _ _ _ _ _ _ _ K).trans h
  · cases h
def A_s_l01Draw_l0 (α : Type) (N : Nat) : Env α := (E_s_l01Pick_s4 α N).addAnn 192 7 { head := [0, 2, 3, 4, 5, 6], grow := [], out := [0, 2, 4, 5], ret := [2] }
theorem A_s_l01Draw_l0_ok {α : Type} (N : Nat) : EnvOk Try.prog (A_s_l01Draw_l0 α N) := (E_s_l01Pick_s4_ok N).addAnn
def s_l01Draw_l0_s2_p : SPat := ⟨[.ptr ⟨⟨1, 0⟩, 0, 0, 3⟩, .undef, .ptr ⟨⟨2, 0⟩, 0, 0, 1⟩, .int .i64, .int .i64, .ptr ⟨⟨3, 0⟩, 0, 0, 1⟩, .int .i64] ++ List.replicate 55 .undef, [[.intsV .u8], [.vals [.sliceV 0 0 0 1 false, .int .i64, .int .u64]], [.vals [.int .i64], .ints .u8 8, .ints .u8 8], [.vals [.int .i64], .ints .u8 8, .ints .u8 8]]⟩
def s_l01Draw_l0_s2_o0 : SPat := ⟨[.ptr ⟨⟨1, 0⟩, 0, 0, 3⟩, .undef, .ptr ⟨⟨2, 0⟩, 0, 0, 1⟩, .undef, .int .i64, .ptr ⟨⟨3, 0⟩, 0, 0, 1⟩] ++ List.replicate 56 .undef, [[.intsV .u8], [.vals [.sliceV 0 0 0 1 false, .int .i64, .int .u64]], [.vals [.int .i64], .ints .u8 8, .ints .u8 8], [.vals [.int .i64], .ints .u8 8, .ints .u8 8]]⟩
theorem s_l01Draw_l0_s2_round {α : Type} (N : Nat) (p : Int) (n : Int) (i : Int) (h0_n : Nat) (h0 : NI) (h1_0_n : Nat) (h1_0_l : Nat) (h1_0_c : Nat) (h1_1 : Int) (h1_2 : Int) (h2_0 : Int) (h2_1 : NI) (h2_2 : NI) (h3_0 : Int) (h3_1 : NI) (h3_2 : NI) (kn : St -> Option α) (K : AExit -> St -> Option α) :
    roundK Try.prog (A_s_l01Draw_l0 α N) 1 1 192 Try.f192 7 4 (buildS s_l01Draw_l0_s2_p [.i p, .i n, .i i, .n h0_n, .f h0, .n h1_0_n, .n h1_0_l, .n h1_0_c, .i h1_1, .i h1_2, .i h2_0, .f h2_1, .f h2_2, .i h3_0, .f h3_1, .f h3_2]) kn K = s_l01Draw_l0_s2_s none p n h0_n h0 h1_0_n h1_0_l h1_0_c h1_1 h1_2 h2_0 h2_1 h2_2 h3_0 i h3_1 h3_2 (fun i h3_1 h3_2 => kn (buildS s_l01Draw_l0_s2_p [.i p, .i n, .i i, .n h0_n, .f h0, .n h1_0_n, .n h1_0_l, .n h1_0_c, .i h1_1, .i h1_2, .i h2_0, .f h2_1, .f h2_2, .i h3_0, .f h3_1, .f h3_2])) (fun h3_1_ h3_2_ => K (.exit 1) (buildS s_l01Draw_l0_s2_o0 [.i n, .n h0_n, .f h0, .n h1_0_n, .n h1_0_l, .n h1_0_c, .i h1_1, .i h1_2, .i h2_0, .f h2_1, .f h2_2, .i h3_0, .f h3_1_, .f h3_2_])) := by kernel_rfl
theorem s_l01Draw_l0_s2_loop {α : Type} (N : Nat) (p : Int) (n : Int) (h0_n : Nat) (h0 : NI) (h1_0_n : Nat) (h1_0_l : Nat) (h1_0_c : Nat) (h1_1 : Int) (h1_2 : Int) (h2_0 : Int) (h2_1 : NI) (h2_2 : NI) (h3_0 : Int) (K : AExit -> St -> Option α) : ∀ (m : Nat) (i : Int) (h3_1 : NI) (h3_2 : NI),
    loopN (trimSt ((A_s_l01Draw_l0 α N).ann 192 7).head ((A_s_l01Draw_l0 α N).ann 192 7).grow 4) (bodyK Try.prog (A_s_l01Draw_l0 α N) 1 1 192 Try.f192 7) m (buildS s_l01Draw_l0_s2_p [.i p, .i n, .i i, .n h0_n, .f h0, .n h1_0_n, .n h1_0_l, .n h1_0_c, .i h1_1, .i h1_2, .i h2_0, .f h2_1, .f h2_2, .i h3_0, .f h3_1, .f h3_2]) (leaveLoop ((A_s_l01Draw_l0 α N).ann 192 7) 4 K) = s_l01Draw_l0_s2 none p n h0_n h0 h1_0_n h1_0_l h1_0_c h1_1 h1_2 h2_0 h2_1 h2_2 h3_0 m i h3_1 h3_2 (fun h3_1_ h3_2_ => K (.exit 1) (buildS s_l01Draw_l0_s2_o0 [.i n, .n h0_n, .f h0, .n h1_0_n, .n h1_0_l, .n h1_0_c, .i h1_1, .i h1_2, .i h2_0, .f h2_1, .f h2_2, .i h3_0, .f h3_1_, .f h3_2_])) := by
  intro m
  induction m with
  | zero => intros; rfl
  | succ m ih =>
    intro i h3_1 h3_2
    rw [loopN_round]
    refine (s_l01Draw_l0_s2_round N p n i h0_n h0 h1_0_n h1_0_l h1_0_c h1_1 h1_2 h2_0 h2_1 h2_2 h3_0 h3_1 h3_2 _ K).trans ?_
    simp only [ih]
    rfl
def E_s_l01Draw_l0_s2 (α : Type) (N : Nat) : Env α := (A_s_l01Draw_l0 α N).addLoop2 192 7 (loopSum2 ((A_s_l01Draw_l0 α N).ann 192 7) 1 s_l01Draw_l0_s2_p (fun l K => match l with
    | [.i p, .i n, .i i, .n h0_n, .f h0, .n h1_0_n, .n h1_0_l, .n h1_0_c, .i h1_1, .i h1_2, .i h2_0, .f h2_1, .f h2_2, .i h3_0, .f h3_1, .f h3_2] => s_l01Draw_l0_s2 none p n h0_n h0 h1_0_n h1_0_l h1_0_c h1_1 h1_2 h2_0 h2_1 h2_2 h3_0 N i h3_1 h3_2 (fun h3_1_ h3_2_ => K (.exit 1) (buildS s_l01Draw_l0_s2_o0 [.i n, .n h0_n, .f h0, .n h1_0_n, .n h1_0_l, .n h1_0_c, .i h1_1, .i h1_2, .i h2_0, .f h2_1, .f h2_2, .i h3_0, .f h3_1_, .f h3_2_]))
    | _ => none) ((A_s_l01Draw_l0 α N).ls 192 7))
theorem E_s_l01Draw_l0_s2_ok {α : Type} (N : Nat) : EnvOk Try.prog (E_s_l01Draw_l0_s2 α N) := (A_s_l01Draw_l0_ok N).addLoop2 Try.func192 (by kernel_rfl) (loopSum_ok prog_mixed prog_names (A_s_l01Draw_l0_ok N) Try.func192 (by kernel_rfl) (d := 1) (ro := 1) fun l K r h => by
  split at h
  · exact (s_l01Draw_l0_s2_loop N _ _ _ _ _ _ _ _ _ _ _ _ _ K N _ _ _).trans h
  · cases h)
def A_s_l01Rolled_l0 (α : Type) (N : Nat) : Env α := (E_s_l01Draw_l0_s2 α N).addAnn 120 3 { head := [1, 2, 3, 6, 7, 8, 9], grow := [], out := [6, 8], ret := [6] }
theorem A_s_l01Rolled_l0_ok {α : Type} (N : Nat) : EnvOk Try.prog (A_s_l01Rolled_l0 α N) := (E_s_l01Draw_l0_s2_ok N).addAnn
def s_l01Rolled_l0_p : SPat := ⟨[.undef, .int .i64, .int .i64, .ptr ⟨⟨0, 0⟩, 0, 0, 1⟩, .undef, .undef, .ptr ⟨⟨1, 0⟩, 0, 0, 1⟩, .int .i64, .ptr ⟨⟨2, 0⟩, 0, 0, 1⟩, .int .i64] ++ List.replicate 55 .undef, [[.vals [.int .i64], .ints .u8 8, .ints .u8 8], [.vals [.int .i64], .ints .u8 8, .ints .u8 8], [.vals [.int .i64], .ints .u8 8, .ints .u8 8]]⟩
def s_l01Rolled_l0_o0 : SPat := ⟨[.undef, .undef, .undef, .undef, .undef, .undef, .ptr ⟨⟨1, 0⟩, 0, 0, 1⟩, .undef, .ptr ⟨⟨2, 0⟩, 0, 0, 1⟩] ++ List.replicate 56 .undef, [[.vals [.int .i64], .ints .u8 8, .ints .u8 8], [.vals [.int .i64], .ints .u8 8, .ints .u8 8], [.vals [.int .i64], .ints .u8 8, .ints .u8 8]]⟩
theorem s_l01Rolled_l0_round {α : Type} (N : Nat) (t1 : Int) (t2 : Int) (t7 : Int) (t9 : Int) (h0_0 : Int) (h0_1 : NI) (h0_2 : NI) (h1_0 : Int) (h1_1 : NI) (h1_2 : NI) (h2_0 : Int) (h2_1 : NI) (h2_2 : NI) (kn : St -> Option α) (K : AExit -> St -> Option α) :
    roundK Try.prog (A_s_l01Rolled_l0 α N) 1 0 120 Try.f120 3 3 (buildS s_l01Rolled_l0_p [.i t1, .i t2, .i t7, .i t9, .i h0_0, .f h0_1, .f h0_2, .i h1_0, .f h1_1, .f h1_2, .i h2_0, .f h2_1, .f h2_2]) kn K = s_l01Rolled_l0_s none t1 t2 t7 h0_0 h0_1 h0_2 h1_0 h1_1 h1_2 h2_0 t9 h2_1 h2_2 (fun t9 h2_1 h2_2 => kn (buildS s_l01Rolled_l0_p [.i t1, .i t2, .i t7, .i t9, .i h0_0, .f h0_1, .f h0_2, .i h1_0, .f h1_1, .f h1_2, .i h2_0, .f h2_1, .f h2_2])) (fun h2_1_ h2_2_ => K (.exit 0) (buildS s_l01Rolled_l0_o0 [.i h0_0, .f h0_1, .f h0_2, .i h1_0, .f h1_1, .f h1_2, .i h2_0, .f h2_1_, .f h2_2_])) := by kernel_rfl
theorem s_l01Rolled_l0_loop {α : Type} (N : Nat) (t1 : Int) (t2 : Int) (t7 : Int) (h0_0 : Int) (h0_1 : NI) (h0_2 : NI) (h1_0 : Int) (h1_1 : NI) (h1_2 : NI) (h2_0 : Int) (K : AExit -> St -> Option α) : ∀ (m : Nat) (t9 : Int) (h2_1 : NI) (h2_2 : NI),
    loopN (trimSt ((A_s_l01Rolled_l0 α N).ann 120 3).head ((A_s_l01Rolled_l0 α N).ann 120 3).grow 3) (bodyK Try.prog (A_s_l01Rolled_l0 α N) 1 0 120 Try.f120 3) m (buildS s_l01Rolled_l0_p [.i t1, .i t2, .i t7, .i t9, .i h0_0, .f h0_1, .f h0_2, .i h1_0, .f h1_1, .f h1_2, .i h2_0, .f h2_1, .f h2_2]) (leaveLoop ((A_s_l01Rolled_l0 α N).ann 120 3) 3 K) = s_l01Rolled_l0 none t1 t2 t7 h0_0 h0_1 h0_2 h1_0 h1_1 h1_2 h2_0 m t9 h2_1 h2_2 (fun h2_1_ h2_2_ => K (.exit 0) (buildS s_l01Rolled_l0_o0 [.i h0_0, .f h0_1, .f h0_2, .i h1_0, .f h1_1, .f h1_2, .i h2_0, .f h2_1_, .f h2_2_])) := by
  intro m
  induction m with
  | zero => intros; rfl
  | succ m ih =>
    intro t9 h2_1 h2_2
    rw [loopN_round]
    refine (s_l01Rolled_l0_round N t1 t2 t7 t9 h0_0 h0_1 h0_2 h1_0 h1_1 h1_2 h2_0 h2_1 h2_2 _ K).trans ?_
    simp only [ih]
    rfl
def E_s_l01Rolled_l0 (α : Type) (N : Nat) : Env α := (A_s_l01Rolled_l0 α N).addLoop2 120 3 (loopSum2 ((A_s_l01Rolled_l0 α N).ann 120 3) 0 s_l01Rolled_l0_p (fun l K => match l with
    | [.i t1, .i t2, .i t7, .i t9, .i h0_0, .f h0_1, .f h0_2, .i h1_0, .f h1_1, .f h1_2, .i h2_0, .f h2_1, .f h2_2] => s_l01Rolled_l0 none t1 t2 t7 h0_0 h0_1 h0_2 h1_0 h1_1 h1_2 h2_0 N t9 h2_1 h2_2 (fun h2_1_ h2_2_ => K (.exit 0) (buildS s_l01Rolled_l0_o0 [.i h0_0, .f h0_1, .f h0_2, .i h1_0, .f h1_1, .f h1_2, .i h2_0, .f h2_1_, .f h2_2_]))
    | _ => none) ((A_s_l01Rolled_l0 α N).ls 120 3))
theorem E_s_l01Rolled_l0_ok {α : Type} (N : Nat) : EnvOk Try.prog (E_s_l01Rolled_l0 α N) := (A_s_l01Rolled_l0_ok N).addLoop2 Try.func120 (by kernel_rfl) (loopSum_ok prog_mixed prog_names (A_s_l01Rolled_l0_ok N) Try.func120 (by kernel_rfl) (d := 1) (ro := 0) fun l K r h => by
  split at h
  · exact (s_l01Rolled_l0_loop N _ _ _ _ _ _ _ _ _ _ K N _ _ _).trans h
  · cases h)
def s_l01Rolled_a : SPat := ⟨[.agg [.vals [.int .i64], .ints .u8 8, .ints .u8 8], .int .i64, .int .i64], []⟩
def s_l01Rolled_r0 : SPat := ⟨[.agg [.vals [.int .i64], .ints .u8 8, .ints .u8 8]], []⟩
theorem s_l01Rolled_run {α : Type} (N : Nat) (g_0 : Int) (g_1 : NI) (g_2 : NI) (a1 : Int) (a2 : Int) (K : AV -> Heap -> Option α) :
    callK Try.prog (E_s_l01Rolled_l0 α N) 1 120 0 (buildS s_l01Rolled_a [.i g_0, .f g_1, .f g_2, .i a1, .i a2]).t (buildS s_l01Rolled_a [.i g_0, .f g_1, .f g_2, .i a1, .i a2]).h K = s_l01Rolled none N g_0 g_1 g_2 a1 a2 (fun r_1_ r_2_ => retK (buildS s_l01Rolled_r0 [.i g_0, .f r_1_, .f r_2_]) K) := by kernel_rfl
def E_s_l01Rolled (α : Type) (N : Nat) : Env α := (E_s_l01Rolled_l0 α N).addFun 120 true 0 s_l01Rolled_a (fun l K => match l with
    | [.i g_0, .f g_1, .f g_2, .i a1, .i a2] => s_l01Rolled none N g_0 g_1 g_2 a1 a2 (fun r_1_ r_2_ => retK (buildS s_l01Rolled_r0 [.i g_0, .f r_1_, .f r_2_]) K)
    | _ => none)
theorem E_s_l01Rolled_ok {α : Type} (N : Nat) : EnvOk Try.prog (E_s_l01Rolled α N) := (E_s_l01Rolled_l0_ok N).addFun prog_mixed prog_names (d := 1) fun l K r h => by
  split at h
  · exact (s_l01Rolled_run N _ _ _ _ _ K).trans h
  · cases h
def s_l01Draw_s2_a : SPat := ⟨[.ptr ⟨⟨1, 0⟩, 0, 0, 3⟩], [[.intsV .u8], [.vals [.sliceV 0 0 0 1 false, .int .i64, .int .u64]]]⟩
def s_l01Draw_s2_r0 : SPat := ⟨[.agg [.vals [.int .i64], .ints .u8 8, .ints .u8 8]], [[.intsV .u8], [.vals [.sliceV 0 0 0 1 false, .int .i64, .int .u64]]]⟩
theorem s_l01Draw_s2_run {α : Type} (N : Nat) (h0_n : Nat) (h0 : NI) (h1_0_n : Nat) (h1_0_l : Nat) (h1_0_c : Nat) (h1_1 : Int) (h1_2 : Int) (K : AV -> Heap -> Option α) :
    callK Try.prog (E_s_l01Rolled α N) 1 192 1 (buildS s_l01Draw_s2_a [.n h0_n, .f h0, .n h1_0_n, .n h1_0_l, .n h1_0_c, .i h1_1, .i h1_2]).t (buildS s_l01Draw_s2_a [.n h0_n, .f h0, .n h1_0_n, .n h1_0_l, .n h1_0_c, .i h1_1, .i h1_2]).h K = s_l01Draw_s2 none N h0_n h0 h1_0_n h1_0_l h1_0_c h1_1 h1_2 (fun r_0_ r_1_ r_2_ h1_1_ h1_2_ => retK (buildS s_l01Draw_s2_r0 [.i r_0_, .f r_1_, .f r_2_, .n h0_n, .f h0, .n h1_0_n, .n h1_0_l, .n h1_0_c, .i h1_1_, .i h1_2_]) K) := by kernel_rfl
def E_s_l01Draw_s2 (α : Type) (N : Nat) : Env α := (E_s_l01Rolled α N).addFun 192 false 1 s_l01Draw_s2_a (fun l K => match l with
    | [.n h0_n, .f h0, .n h1_0_n, .n h1_0_l, .n h1_0_c, .i h1_1, .i h1_2] => s_l01Draw_s2 none N h0_n h0 h1_0_n h1_0_l h1_0_c h1_1 h1_2 (fun r_0_ r_1_ r_2_ h1_1_ h1_2_ => retK (buildS s_l01Draw_s2_r0 [.i r_0_, .f r_1_, .f r_2_, .n h0_n, .f h0, .n h1_0_n, .n h1_0_l, .n h1_0_c, .i h1_1_, .i h1_2_]) K)
    | _ => none)
theorem E_s_l01Draw_s2_ok {α : Type} (N : Nat) : EnvOk Try.prog (E_s_l01Draw_s2 α N) := (E_s_l01Rolled_ok N).addFun prog_mixed prog_names (d := 1) fun l K r h => by
  split at h
  · exact (s_l01Draw_s2_run N _ _ _ _ _ _ _ K).trans h
  · cases h
def s_l01Broken_s2_a : SPat := ⟨[.ptr ⟨⟨1, 0⟩, 0, 0, 3⟩, .agg [.vals [.int .i64], .ints .u8 8, .ints .u8 8]], [[.intsV .u8], [.vals [.sliceV 0 0 0 1 false, .int .i64, .int .u64]]]⟩
def s_l01Broken_s2_r0 : SPat := ⟨[.agg [.vals [.int .i64], .ints .u8 8, .ints .u8 8]], [[.intsV .u8], [.vals [.sliceV 0 0 0 1 false, .int .i64, .int .u64]]]⟩
theorem s_l01Broken_s2_run {α : Type} (N : Nat) (g_0 : Int) (g_1 : NI) (g_2 : NI) (h0_n : Nat) (h0 : NI) (h1_0_n : Nat) (h1_0_l : Nat) (h1_0_c : Nat) (h1_1 : Int) (h1_2 : Int) (K : AV -> Heap -> Option α) :
    callK Try.prog (E_s_l01Draw_s2 α N) 1 121 1 (buildS s_l01Broken_s2_a [.i g_0, .f g_1, .f g_2, .n h0_n, .f h0, .n h1_0_n, .n h1_0_l, .n h1_0_c, .i h1_1, .i h1_2]).t (buildS s_l01Broken_s2_a [.i g_0, .f g_1, .f g_2, .n h0_n, .f h0, .n h1_0_n, .n h1_0_l, .n h1_0_c, .i h1_1, .i h1_2]).h K = s_l01Broken_s2 none N g_0 g_1 g_2 h0_n h0 h1_0_n h1_0_l h1_0_c h1_1 h1_2 (fun r_0_ r_1_ r_2_ h1_1_ h1_2_ => retK (buildS s_l01Broken_s2_r0 [.i r_0_, .f r_1_, .f r_2_, .n h0_n, .f h0, .n h1_0_n, .n h1_0_l, .n h1_0_c, .i h1_1_, .i h1_2_]) K) := by kernel_rfl
def E_s_l01Broken_s2 (α : Type) (N : Nat) : Env α := (E_s_l01Draw_s2 α N).addFun 121 false 1 s_l01Broken_s2_a (fun l K => match l with
    | [.i g_0, .f g_1, .f g_2, .n h0_n, .f h0, .n h1_0_n, .n h1_0_l, .n h1_0_c, .i h1_1, .i h1_2] => s_l01Broken_s2 none N g_0 g_1 g_2 h0_n h0 h1_0_n h1_0_l h1_0_c h1_1 h1_2 (fun r_0_ r_1_ r_2_ h1_1_ h1_2_ => retK (buildS s_l01Broken_s2_r0 [.i r_0_, .f r_1_, .f r_2_, .n h0_n, .f h0, .n h1_0_n, .n h1_0_l, .n h1_0_c, .i h1_1_, .i h1_2_]) K)
    | _ => none)
theorem E_s_l01Broken_s2_ok {α : Type} (N : Nat) : EnvOk Try.prog (E_s_l01Broken_s2 α N) := (E_s_l01Draw_s2_ok N).addFun prog_mixed prog_names (d := 1) fun l K r h => by
  split at h
  · exact (s_l01Broken_s2_run N _ _ _ _ _ _ _ _ _ _ K).trans h
  · cases h
def A_i_Grid_led_l0 (α : Type) (N : Nat) : Env α := (E_s_l01Broken_s2 α N).addAnn 162 6 { head := [1, 3, 6, 7, 8, 9, 22, 23], grow := [], out := [6, 7], ret := [6] }
theorem A_i_Grid_led_l0_ok {α : Type} (N : Nat) : EnvOk Try.prog (A_i_Grid_led_l0 α N) := (E_s_l01Broken_s2_ok N).addAnn
def s_l01Spoil_a : SPat := ⟨[.ptr ⟨⟨1, 0⟩, 0, 0, 3⟩], [[.intsV .u8], [.vals [.sliceV 0 0 0 1 false, .int .i64, .int .u64]]]⟩
def s_l01Spoil_r0 : SPat := ⟨[.agg [.vals [.int .i64], .ints .u8 8, .ints .u8 8]], [[.intsV .u8], [.vals [.sliceV 0 0 0 1 false, .int .i64, .int .u64]]]⟩
theorem s_l01Spoil_run {α : Type} (N : Nat) (h0_n : Nat) (h0 : NI) (h1_0_n : Nat) (h1_0_l : Nat) (h1_0_c : Nat) (h1_1 : Int) (h1_2 : Int) (K : AV -> Heap -> Option α) :
    callK Try.prog (A_i_Grid_led_l0 α N) 1 103 1 (buildS s_l01Spoil_a [.n h0_n, .f h0, .n h1_0_n, .n h1_0_l, .n h1_0_c, .i h1_1, .i h1_2]).t (buildS s_l01Spoil_a [.n h0_n, .f h0, .n h1_0_n, .n h1_0_l, .n h1_0_c, .i h1_1, .i h1_2]).h K = s_l01Spoil none N h0_n h0 h1_0_n h1_0_l h1_0_c h1_1 h1_2 (fun r_0_ r_1_ r_2_ h1_1_ h1_2_ => retK (buildS s_l01Spoil_r0 [.i r_0_, .f r_1_, .f r_2_, .n h0_n, .f h0, .n h1_0_n, .n h1_0_l, .n h1_0_c, .i h1_1_, .i h1_2_]) K) := by kernel_rfl
def E_s_l01Spoil (α : Type) (N : Nat) : Env α := (A_i_Grid_led_l0 α N).addFun 103 false 1 s_l01Spoil_a (fun l K => match l with
    | [.n h0_n, .f h0, .n h1_0_n, .n h1_0_l, .n h1_0_c, .i h1_1, .i h1_2] => s_l01Spoil none N h0_n h0 h1_0_n h1_0_l h1_0_c h1_1 h1_2 (fun r_0_ r_1_ r_2_ h1_1_ h1_2_ => retK (buildS s_l01Spoil_r0 [.i r_0_, .f r_1_, .f r_2_, .n h0_n, .f h0, .n h1_0_n, .n h1_0_l, .n h1_0_c, .i h1_1_, .i h1_2_]) K)
    | _ => none)
theorem E_s_l01Spoil_ok {α : Type} (N : Nat) : EnvOk Try.prog (E_s_l01Spoil α N) := (A_i_Grid_led_l0_ok N).addFun prog_mixed prog_names (d := 1) fun l K r h => by
  split at h
  · exact (s_l01Spoil_run N _ _ _ _ _ _ _ K).trans h
  · cases h
def s_DrawCornersOf_a : SPat := ⟨[.sliceV 0 0 0 1 false], [[.intsV .u8]]⟩
def s_DrawCornersOf_r0 : SPat := ⟨[.agg [.vals [.int .i64], .ints .u8 8, .ints .u8 8]], [[.intsV .u8]]⟩
theorem s_DrawCornersOf_run {α : Type} (N : Nat) (code_n : Nat) (code_l : Nat) (code_c : Nat) (h0_n : Nat) (h0 : NI) (K : AV -> Heap -> Option α) :
    callK Try.prog (E_s_l01Spoil α N) 1 68 1 (buildS s_DrawCornersOf_a [.n code_n, .n code_l, .n code_c, .n h0_n, .f h0]).t (buildS s_DrawCornersOf_a [.n code_n, .n code_l, .n code_c, .n h0_n, .f h0]).h K = s_DrawCornersOf none N code_n code_l code_c h0_n h0 (fun r_0_ r_1_ r_2_ => retK (buildS s_DrawCornersOf_r0 [.i r_0_, .f r_1_, .f r_2_, .n h0_n, .f h0]) K) := by kernel_rfl
def E_s_DrawCornersOf (α : Type) (N : Nat) : Env α := (E_s_l01Spoil α N).addFun 68 true 1 s_DrawCornersOf_a (fun l K => match l with
    | [.n code_n, .n code_l, .n code_c, .n h0_n, .f h0] => s_DrawCornersOf none N code_n code_l code_c h0_n h0 (fun r_0_ r_1_ r_2_ => retK (buildS s_DrawCornersOf_r0 [.i r_0_, .f r_1_, .f r_2_, .n h0_n, .f h0]) K)
    | _ => none)
theorem E_s_DrawCornersOf_ok {α : Type} (N : Nat) : EnvOk Try.prog (E_s_DrawCornersOf α N) := (E_s_l01Spoil_ok N).addFun prog_mixed prog_names (d := 1) fun l K r h => by
  split at h
  · exact (s_DrawCornersOf_run N _ _ _ _ _ K).trans h
  · cases h
def i_whole_i_Corner_a : SPat := ⟨[.agg [.vals [.int .i64], .ints .u8 8, .ints .u8 8], .func 96 []], []⟩
def i_whole_i_Corner_r0 : SPat := ⟨[.tuple [.nils, .int .i64]], []⟩
def i_whole_i_Corner_r1 : SPat := ⟨[.tuple [.sliceV 0 0 0 4 false, .int .i64]], [[.recs [some IntKind.i64, some IntKind.i64, some IntKind.i64, none]]]⟩
theorem i_whole_i_Corner_run {α : Type} (N : Nat) (g_0 : Int) (g_1 : NI) (g_2 : NI) (K : AV -> Heap -> Option α) :
    callK Try.prog (E_s_DrawCornersOf α N) 1 164 0 (buildS i_whole_i_Corner_a [.i g_0, .f g_1, .f g_2]).t (buildS i_whole_i_Corner_a [.i g_0, .f g_1, .f g_2]).h K = i_whole_i_Corner none N g_0 g_1 g_2 (fun r_1_ => retK (buildS i_whole_i_Corner_r0 [.i r_1_]) K) (fun r_0_n_ r_0_l_ r_0_c_ r_1_ h0_ => retK (buildS i_whole_i_Corner_r1 [.n r_0_n_, .n r_0_l_, .n r_0_c_, .i r_1_, .l h0_]) K) := by kernel_rfl
def E_i_whole_i_Corner (α : Type) (N : Nat) : Env α := (E_s_DrawCornersOf α N).addFun 164 true 0 i_whole_i_Corner_a (fun l K => match l with
    | [.i g_0, .f g_1, .f g_2] => i_whole_i_Corner none N g_0 g_1 g_2 (fun r_1_ => retK (buildS i_whole_i_Corner_r0 [.i r_1_]) K) (fun r_0_n_ r_0_l_ r_0_c_ r_1_ h0_ => retK (buildS i_whole_i_Corner_r1 [.n r_0_n_, .n r_0_l_, .n r_0_c_, .i r_1_, .l h0_]) K)
    | _ => none)
theorem E_i_whole_i_Corner_ok {α : Type} (N : Nat) : EnvOk Try.prog (E_i_whole_i_Corner α N) := (E_s_DrawCornersOf_ok N).addFun prog_mixed prog_names (d := 1) fun l K r h => by
  split at h
  · exact (i_whole_i_Corner_run N _ _ _ K).trans h
  · cases h
def i_CornersOf_a : SPat := ⟨[.agg [.vals [.int .i64], .ints .u8 8, .ints .u8 8]], []⟩
def i_CornersOf_r0 : SPat := ⟨[.tuple [.nils, .int .i64]], []⟩
def i_CornersOf_r1 : SPat := ⟨[.tuple [.sliceV 0 0 0 4 false, .int .i64]], [[.recs [some IntKind.i64, some IntKind.i64, some IntKind.i64, none]]]⟩
theorem i_CornersOf_run {α : Type} (N : Nat) (g_0 : Int) (g_1 : NI) (g_2 : NI) (K : AV -> Heap -> Option α) :
    callK Try.prog (E_i_whole_i_Corner α N) 1 69 0 (buildS i_CornersOf_a [.i g_0, .f g_1, .f g_2]).t (buildS i_CornersOf_a [.i g_0, .f g_1, .f g_2]).h K = i_CornersOf none N g_0 g_1 g_2 (fun r_1_ => retK (buildS i_CornersOf_r0 [.i r_1_]) K) (fun r_0_n_ r_0_l_ r_0_c_ r_1_ h0_ => retK (buildS i_CornersOf_r1 [.n r_0_n_, .n r_0_l_, .n r_0_c_, .i r_1_, .l h0_]) K) := by kernel_rfl
def E_i_CornersOf (α : Type) (N : Nat) : Env α := (E_i_whole_i_Corner α N).addFun 69 true 0 i_CornersOf_a (fun l K => match l with
    | [.i g_0, .f g_1, .f g_2] => i_CornersOf none N g_0 g_1 g_2 (fun r_1_ => retK (buildS i_CornersOf_r0 [.i r_1_]) K) (fun r_0_n_ r_0_l_ r_0_c_ r_1_ h0_ => retK (buildS i_CornersOf_r1 [.n r_0_n_, .n r_0_l_, .n r_0_c_, .i r_1_, .l h0_]) K)
    | _ => none)
theorem E_i_CornersOf_ok {α : Type} (N : Nat) : EnvOk Try.prog (E_i_CornersOf α N) := (E_i_whole_i_Corner_ok N).addFun prog_mixed prog_names (d := 1) fun l K r h => by
  split at h
  · exact (i_CornersOf_run N _ _ _ K).trans h
  · cases h
def s_CornersOf_a : SPat := ⟨[.agg [.vals [.int .i64], .ints .u8 8, .ints .u8 8]], []⟩
def s_CornersOf_r0 : SPat := ⟨[.tuple [.nils, .int .i64]], []⟩
def s_CornersOf_r1 : SPat := ⟨[.tuple [.sliceV 0 0 0 4 false, .int .i64]], [[.recs [some IntKind.i64, some IntKind.i64, some IntKind.i64, none]]]⟩
theorem s_CornersOf_run {α : Type} (N : Nat) (g_0 : Int) (g_1 : NI) (g_2 : NI) (K : AV -> Heap -> Option α) :
    callK Try.prog (E_i_CornersOf α N) 1 70 0 (buildS s_CornersOf_a [.i g_0, .f g_1, .f g_2]).t (buildS s_CornersOf_a [.i g_0, .f g_1, .f g_2]).h K = s_CornersOf none N g_0 g_1 g_2 (fun r_1_ => retK (buildS s_CornersOf_r0 [.i r_1_]) K) (fun r_0_n_ r_0_l_ r_0_c_ r_1_ h0_ => retK (buildS s_CornersOf_r1 [.n r_0_n_, .n r_0_l_, .n r_0_c_, .i r_1_, .l h0_]) K) := by kernel_rfl
def E_s_CornersOf (α : Type) (N : Nat) : Env α := (E_i_CornersOf α N).addFun 70 true 0 s_CornersOf_a (fun l K => match l with
    | [.i g_0, .f g_1, .f g_2] => s_CornersOf none N g_0 g_1 g_2 (fun r_1_ => retK (buildS s_CornersOf_r0 [.i r_1_]) K) (fun r_0_n_ r_0_l_ r_0_c_ r_1_ h0_ => retK (buildS s_CornersOf_r1 [.n r_0_n_, .n r_0_l_, .n r_0_c_, .i r_1_, .l h0_]) K)
    | _ => none)
theorem E_s_CornersOf_ok {α : Type} (N : Nat) : EnvOk Try.prog (E_s_CornersOf α N) := (E_i_CornersOf_ok N).addFun prog_mixed prog_names (d := 1) fun l K r h => by
  split at h
  · exact (s_CornersOf_run N _ _ _ K).trans h
  · cases h
def A_w_FnCorners_l0 (α : Type) (N : Nat) : Env α := (E_s_CornersOf α N).addAnn 8 10 { head := [3, 4, 5, 6, 8, 9], grow := [], out := [3, 4, 5, 8], ret := [2] }
theorem A_w_FnCorners_l0_ok {α : Type} (N : Nat) : EnvOk Try.prog (A_w_FnCorners_l0 α N) := (E_s_CornersOf_ok N).addAnn
def w_FnCorners_l0_p : SPat := ⟨[.undef, .undef, .undef, .ptr ⟨⟨1, 0⟩, 0, 0, 1⟩, .nils, .intC .i64 1, .nils, .undef, .ptr ⟨⟨2, 0⟩, 0, 0, 4⟩, .int .i64] ++ List.replicate 259 .undef, [[.intsV .u8], [.vals [.int .i64], .ints .u8 8, .ints .u8 8], [.ints .i64 4]]⟩
def w_FnCorners_l0_o0 : SPat := ⟨[.undef, .undef, .undef, .ptr ⟨⟨1, 0⟩, 0, 0, 1⟩, .nils, .intC .i64 1, .undef, .undef, .ptr ⟨⟨2, 0⟩, 0, 0, 4⟩] ++ List.replicate 260 .undef, [[.intsV .u8], [.vals [.int .i64], .ints .u8 8, .ints .u8 8], [.ints .i64 4]]⟩
theorem w_FnCorners_l0_round {α : Type} (N : Nat) (t9 : Int) (h0_n : Nat) (h0 : NI) (h1_0 : Int) (h1_1 : NI) (h1_2 : NI) (h2 : NI) (kn : St -> Option α) (K : AExit -> St -> Option α) :
    roundK Try.prog (A_w_FnCorners_l0 α N) 1 1 8 Try.f8 10 3 (buildS w_FnCorners_l0_p [.i t9, .n h0_n, .f h0, .i h1_0, .f h1_1, .f h1_2, .f h2]) kn K = w_FnCorners_l0_s none t9 h0_n h0 h1_0 h1_1 h1_2 h2  (kn (buildS w_FnCorners_l0_p [.i t9, .n h0_n, .f h0, .i h1_0, .f h1_1, .f h1_2, .f h2])) (K (.exit 0) (buildS w_FnCorners_l0_o0 [.n h0_n, .f h0, .i h1_0, .f h1_1, .f h1_2, .f h2])) := by kernel_rfl
theorem w_FnCorners_l0_loop {α : Type} (N : Nat) (t9 : Int) (h0_n : Nat) (h0 : NI) (h1_0 : Int) (h1_1 : NI) (h1_2 : NI) (h2 : NI) (K : AExit -> St -> Option α) : ∀ (m : Nat),
    loopN (trimSt ((A_w_FnCorners_l0 α N).ann 8 10).head ((A_w_FnCorners_l0 α N).ann 8 10).grow 3) (bodyK Try.prog (A_w_FnCorners_l0 α N) 1 1 8 Try.f8 10) m (buildS w_FnCorners_l0_p [.i t9, .n h0_n, .f h0, .i h1_0, .f h1_1, .f h1_2, .f h2]) (leaveLoop ((A_w_FnCorners_l0 α N).ann 8 10) 3 K) = w_FnCorners_l0 none t9 h0_n h0 h1_0 h1_1 h1_2 h2 m  (K (.exit 0) (buildS w_FnCorners_l0_o0 [.n h0_n, .f h0, .i h1_0, .f h1_1, .f h1_2, .f h2])) := by
  intro m
  induction m with
  | zero => intros; rfl
  | succ m ih =>
    rw [loopN_round]
    refine (w_FnCorners_l0_round N t9 h0_n h0 h1_0 h1_1 h1_2 h2 _ K).trans ?_
    simp only [ih]
    rfl
def E_w_FnCorners_l0 (α : Type) (N : Nat) : Env α := (A_w_FnCorners_l0 α N).addLoop2 8 10 (loopSum2 ((A_w_FnCorners_l0 α N).ann 8 10) 1 w_FnCorners_l0_p (fun l K => match l with
    | [.i t9, .n h0_n, .f h0, .i h1_0, .f h1_1, .f h1_2, .f h2] => w_FnCorners_l0 none t9 h0_n h0 h1_0 h1_1 h1_2 h2 N  (K (.exit 0) (buildS w_FnCorners_l0_o0 [.n h0_n, .f h0, .i h1_0, .f h1_1, .f h1_2, .f h2]))
    | _ => none) ((A_w_FnCorners_l0 α N).ls 8 10))
theorem E_w_FnCorners_l0_ok {α : Type} (N : Nat) : EnvOk Try.prog (E_w_FnCorners_l0 α N) := (A_w_FnCorners_l0_ok N).addLoop2 Try.func8 (by kernel_rfl) (loopSum_ok prog_mixed prog_names (A_w_FnCorners_l0_ok N) Try.func8 (by kernel_rfl) (d := 1) (ro := 1) fun l K r h => by
  split at h
  · exact (w_FnCorners_l0_loop N _ _ _ _ _ _ _ K N ).trans h
  · cases h)
def A_i_Grid_walks_l0 (α : Type) (N : Nat) : Env α := (E_w_FnCorners_l0 α N).addAnn 168 3 { head := [1, 3, 4, 5, 16, 17], grow := [5], out := [5], ret := [2] }
theorem A_i_Grid_walks_l0_ok {α : Type} (N : Nat) : EnvOk Try.prog (A_i_Grid_walks_l0 α N) := (E_w_FnCorners_l0_ok N).addAnn
def A_i_Grid_walks_l1 (α : Type) (N : Nat) : Env α := (A_i_Grid_walks_l0 α N).addAnn 168 8 { head := [1, 3, 4, 5, 7, 8, 16, 17], grow := [7], out := [1, 3, 4, 5, 7, 16, 17], ret := [2] }
theorem A_i_Grid_walks_l1_ok {α : Type} (N : Nat) : EnvOk Try.prog (A_i_Grid_walks_l1 α N) := (A_i_Grid_walks_l0_ok N).addAnn
def i_Grid_walks_l1_p : SPat := ⟨[.undef, .ptr ⟨⟨0, 0⟩, 0, 0, 1⟩, .undef, .ptr ⟨⟨3, 0⟩, 0, 0, 8⟩, .ptr ⟨⟨4, 0⟩, 0, 0, 8⟩, .sliceV 2 0 0 1 false, .undef, .sliceV 5 0 0 1 false, .int .i64, .undef, .undef, .undef, .undef, .undef, .undef, .undef, .int .i64, .int .i64] ++ List.replicate 29 .undef, [[.vals [.int .i64], .ints .u8 8, .ints .u8 8], [.pool .i64], [.hdr 1], [.ints .i64 8], [.bools 8], [.vec .i64]]⟩
def i_Grid_walks_l1_o0 : SPat := ⟨[.undef, .ptr ⟨⟨0, 0⟩, 0, 0, 1⟩, .undef, .ptr ⟨⟨3, 0⟩, 0, 0, 8⟩, .ptr ⟨⟨4, 0⟩, 0, 0, 8⟩, .sliceV 2 0 0 1 false, .undef, .sliceV 5 0 0 1 false, .undef, .undef, .undef, .undef, .undef, .undef, .undef, .undef, .int .i64, .int .i64] ++ List.replicate 29 .undef, [[.vals [.int .i64], .ints .u8 8, .ints .u8 8], [.pool .i64], [.hdr 1], [.ints .i64 8], [.bools 8], [.vec .i64]]⟩
theorem i_Grid_walks_l1_round {α : Type} (N : Nat) (out_n : Nat) (out_l : Nat) (out_c : Nat) (walk_n : Nat) (walk_l : Nat) (walk_c : Nat) (k : Int) (t16 : Int) (t17 : Int) (h0_0 : Int) (h0_1 : NI) (h0_2 : NI) (h1 : List (List Int)) (h2 : List (Nat × Nat)) (h3 : NI) (h4 : Nat -> Bool) (h5 : List Int) (kn : St -> Option α) (K : AExit -> St -> Option α) :
    roundK Try.prog (A_i_Grid_walks_l1 α N) 1 0 168 Try.f168 8 6 (buildS i_Grid_walks_l1_p [.n out_n, .n out_l, .n out_c, .n walk_n, .n walk_l, .n walk_c, .i k, .i t16, .i t17, .i h0_0, .f h0_1, .f h0_2, .r h1, .p h2, .f h3, .g h4, .l h5]) kn K = i_Grid_walks_l1_s none out_n out_l out_c t16 t17 h0_0 h0_1 h0_2 h1 h2 h3 walk_n walk_l walk_c k h4 h5 (fun walk_n walk_l walk_c k h4 h5 => kn (buildS i_Grid_walks_l1_p [.n out_n, .n out_l, .n out_c, .n walk_n, .n walk_l, .n walk_c, .i k, .i t16, .i t17, .i h0_0, .f h0_1, .f h0_2, .r h1, .p h2, .f h3, .g h4, .l h5])) (fun walk_n_ walk_l_ walk_c_ h4_ h5_ => K (.exit 2) (buildS i_Grid_walks_l1_o0 [.n out_n, .n out_l, .n out_c, .n walk_n_, .n walk_l_, .n walk_c_, .i t16, .i t17, .i h0_0, .f h0_1, .f h0_2, .r h1, .p h2, .f h3, .g h4_, .l h5_])) := by kernel_rfl
theorem i_Grid_walks_l1_loop {α : Type} (N : Nat) (out_n : Nat) (out_l : Nat) (out_c : Nat) (t16 : Int) (t17 : Int) (h0_0 : Int) (h0_1 : NI) (h0_2 : NI) (h1 : List (List Int)) (h2 : List (Nat × Nat)) (h3 : NI) (K : AExit -> St -> Option α) : ∀ (m : Nat) (walk_n : Nat) (walk_l : Nat) (walk_c : Nat) (k : Int) (h4 : Nat -> Bool) (h5 : List Int),
    loopN (trimSt ((A_i_Grid_walks_l1 α N).ann 168 8).head ((A_i_Grid_walks_l1 α N).ann 168 8).grow 6) (bodyK Try.prog (A_i_Grid_walks_l1 α N) 1 0 168 Try.f168 8) m (buildS i_Grid_walks_l1_p [.n out_n, .n out_l, .n out_c, .n walk_n, .n walk_l, .n walk_c, .i k, .i t16, .i t17, .i h0_0, .f h0_1, .f h0_2, .r h1, .p h2, .f h3, .g h4, .l h5]) (leaveLoop ((A_i_Grid_walks_l1 α N).ann 168 8) 6 K) = i_Grid_walks_l1 none out_n out_l out_c t16 t17 h0_0 h0_1 h0_2 h1 h2 h3 m walk_n walk_l walk_c k h4 h5 (fun walk_n_ walk_l_ walk_c_ h4_ h5_ => K (.exit 2) (buildS i_Grid_walks_l1_o0 [.n out_n, .n out_l, .n out_c, .n walk_n_, .n walk_l_, .n walk_c_, .i t16, .i t17, .i h0_0, .f h0_1, .f h0_2, .r h1, .p h2, .f h3, .g h4_, .l h5_])) := by
  intro m
  induction m with
  | zero => intros; rfl
  | succ m ih =>
    intro walk_n walk_l walk_c k h4 h5
    rw [loopN_round]
    refine (i_Grid_walks_l1_round N out_n out_l out_c walk_n walk_l walk_c k t16 t17 h0_0 h0_1 h0_2 h1 h2 h3 h4 h5 _ K).trans ?_
    simp only [ih]
    rfl
def E_i_Grid_walks_l1 (α : Type) (N : Nat) : Env α := (A_i_Grid_walks_l1 α N).addLoop2 168 8 (loopSum2 ((A_i_Grid_walks_l1 α N).ann 168 8) 0 i_Grid_walks_l1_p (fun l K => match l with
    | [.n out_n, .n out_l, .n out_c, .n walk_n, .n walk_l, .n walk_c, .i k, .i t16, .i t17, .i h0_0, .f h0_1, .f h0_2, .r h1, .p h2, .f h3, .g h4, .l h5] => i_Grid_walks_l1 none out_n out_l out_c t16 t17 h0_0 h0_1 h0_2 h1 h2 h3 N walk_n walk_l walk_c k h4 h5 (fun walk_n_ walk_l_ walk_c_ h4_ h5_ => K (.exit 2) (buildS i_Grid_walks_l1_o0 [.n out_n, .n out_l, .n out_c, .n walk_n_, .n walk_l_, .n walk_c_, .i t16, .i t17, .i h0_0, .f h0_1, .f h0_2, .r h1, .p h2, .f h3, .g h4_, .l h5_]))
    | _ => none) ((A_i_Grid_walks_l1 α N).ls 168 8))
theorem E_i_Grid_walks_l1_ok {α : Type} (N : Nat) : EnvOk Try.prog (E_i_Grid_walks_l1 α N) := (A_i_Grid_walks_l1_ok N).addLoop2 Try.func168 (by kernel_rfl) (loopSum_ok prog_mixed prog_names (A_i_Grid_walks_l1_ok N) Try.func168 (by kernel_rfl) (d := 1) (ro := 0) fun l K r h => by
  split at h
  · exact (i_Grid_walks_l1_loop N _ _ _ _ _ _ _ _ _ _ _ K N _ _ _ _ _ _).trans h
  · cases h)
def i_Grid_walks_l0_p : SPat := ⟨[.undef, .ptr ⟨⟨0, 0⟩, 0, 0, 1⟩, .undef, .ptr ⟨⟨3, 0⟩, 0, 0, 8⟩, .ptr ⟨⟨4, 0⟩, 0, 0, 8⟩, .sliceV 2 0 0 1 false, .undef, .undef, .undef, .undef, .undef, .undef, .undef, .undef, .undef, .undef, .int .i64, .int .i64] ++ List.replicate 29 .undef, [[.vals [.int .i64], .ints .u8 8, .ints .u8 8], [.pool .i64], [.hdr 1], [.ints .i64 8], [.bools 8]]⟩
def i_Grid_walks_l0_o0 : SPat := ⟨[.undef, .undef, .undef, .undef, .undef, .sliceV 2 0 0 1 false] ++ List.replicate 41 .undef, [[.vals [.int .i64], .ints .u8 8, .ints .u8 8], [.pool .i64], [.hdr 1], [.ints .i64 8], [.bools 8]]⟩
theorem i_Grid_walks_l0_round {α : Type} (N : Nat) (out_n : Nat) (out_l : Nat) (out_c : Nat) (t16 : Int) (t17 : Int) (h0_0 : Int) (h0_1 : NI) (h0_2 : NI) (h1 : List (List Int)) (h2 : List (Nat × Nat)) (h3 : NI) (h4 : Nat -> Bool) (kn : St -> Option α) (K : AExit -> St -> Option α) :
    roundK Try.prog (E_i_Grid_walks_l1 α N) 1 0 168 Try.f168 3 5 (buildS i_Grid_walks_l0_p [.n out_n, .n out_l, .n out_c, .i t16, .i t17, .i h0_0, .f h0_1, .f h0_2, .r h1, .p h2, .f h3, .g h4]) kn K = i_Grid_walks_l0_s none N t16 h0_0 h0_1 h0_2 h3 out_n out_l out_c t17 h1 h2 h4 (fun out_n out_l out_c t17 h1 h2 h4 => kn (buildS i_Grid_walks_l0_p [.n out_n, .n out_l, .n out_c, .i t16, .i t17, .i h0_0, .f h0_1, .f h0_2, .r h1, .p h2, .f h3, .g h4])) (fun out_n_ out_l_ out_c_ h1_ h2_ h4_ => K (.exit 0) (buildS i_Grid_walks_l0_o0 [.n out_n_, .n out_l_, .n out_c_, .i h0_0, .f h0_1, .f h0_2, .r h1_, .p h2_, .f h3, .g h4_])) := by kernel_rfl
theorem i_Grid_walks_l0_loop {α : Type} (N : Nat) (t16 : Int) (h0_0 : Int) (h0_1 : NI) (h0_2 : NI) (h3 : NI) (K : AExit -> St -> Option α) : ∀ (m : Nat) (out_n : Nat) (out_l : Nat) (out_c : Nat) (t17 : Int) (h1 : List (List Int)) (h2 : List (Nat × Nat)) (h4 : Nat -> Bool),
    loopN (trimSt ((E_i_Grid_walks_l1 α N).ann 168 3).head ((E_i_Grid_walks_l1 α N).ann 168 3).grow 5) (bodyK Try.prog (E_i_Grid_walks_l1 α N) 1 0 168 Try.f168 3) m (buildS i_Grid_walks_l0_p [.n out_n, .n out_l, .n out_c, .i t16, .i t17, .i h0_0, .f h0_1, .f h0_2, .r h1, .p h2, .f h3, .g h4]) (leaveLoop ((E_i_Grid_walks_l1 α N).ann 168 3) 5 K) = i_Grid_walks_l0 none N t16 h0_0 h0_1 h0_2 h3 m out_n out_l out_c t17 h1 h2 h4 (fun out_n_ out_l_ out_c_ h1_ h2_ h4_ => K (.exit 0) (buildS i_Grid_walks_l0_o0 [.n out_n_, .n out_l_, .n out_c_, .i h0_0, .f h0_1, .f h0_2, .r h1_, .p h2_, .f h3, .g h4_])) := by
  intro m
  induction m with
  | zero => intros; rfl
  | succ m ih =>
    intro out_n out_l out_c t17 h1 h2 h4
    rw [loopN_round]
    refine (i_Grid_walks_l0_round N out_n out_l out_c t16 t17 h0_0 h0_1 h0_2 h1 h2 h3 h4 _ K).trans ?_
    simp only [ih]
    rfl
def E_i_Grid_walks_l0 (α : Type) (N : Nat) : Env α := (E_i_Grid_walks_l1 α N).addLoop2 168 3 (loopSum2 ((E_i_Grid_walks_l1 α N).ann 168 3) 0 i_Grid_walks_l0_p (fun l K => match l with
    | [.n out_n, .n out_l, .n out_c, .i t16, .i t17, .i h0_0, .f h0_1, .f h0_2, .r h1, .p h2, .f h3, .g h4] => i_Grid_walks_l0 none N t16 h0_0 h0_1 h0_2 h3 N out_n out_l out_c t17 h1 h2 h4 (fun out_n_ out_l_ out_c_ h1_ h2_ h4_ => K (.exit 0) (buildS i_Grid_walks_l0_o0 [.n out_n_, .n out_l_, .n out_c_, .i h0_0, .f h0_1, .f h0_2, .r h1_, .p h2_, .f h3, .g h4_]))
    | _ => none) ((E_i_Grid_walks_l1 α N).ls 168 3))
theorem E_i_Grid_walks_l0_ok {α : Type} (N : Nat) : EnvOk Try.prog (E_i_Grid_walks_l0 α N) := (E_i_Grid_walks_l1_ok N).addLoop2 Try.func168 (by kernel_rfl) (loopSum_ok prog_mixed prog_names (E_i_Grid_walks_l1_ok N) Try.func168 (by kernel_rfl) (d := 1) (ro := 0) fun l K r h => by
  split at h
  · exact (i_Grid_walks_l0_loop N _ _ _ _ _ K N _ _ _ _ _ _ _).trans h
  · cases h)
def i_Grid_walks_a : SPat := ⟨[.agg [.vals [.int .i64], .ints .u8 8, .ints .u8 8]], []⟩
def i_Grid_walks_r0 : SPat := ⟨[.sliceV 0 0 0 1 false], [[.hdr 1], [.pool .i64]]⟩
theorem i_Grid_walks_run {α : Type} (N : Nat) (g_0 : Int) (g_1 : NI) (g_2 : NI) (K : AV -> Heap -> Option α) :
    callK Try.prog (E_i_Grid_walks_l0 α N) 1 168 0 (buildS i_Grid_walks_a [.i g_0, .f g_1, .f g_2]).t (buildS i_Grid_walks_a [.i g_0, .f g_1, .f g_2]).h K = i_Grid_walks none N g_0 g_1 g_2 (fun r_n_ r_l_ r_c_ h0_ h1_ => retK (buildS i_Grid_walks_r0 [.n r_n_, .n r_l_, .n r_c_, .p h0_, .r h1_]) K) := by kernel_rfl
def E_i_Grid_walks (α : Type) (N : Nat) : Env α := (E_i_Grid_walks_l0 α N).addFun 168 true 0 i_Grid_walks_a (fun l K => match l with
    | [.i g_0, .f g_1, .f g_2] => i_Grid_walks none N g_0 g_1 g_2 (fun r_n_ r_l_ r_c_ h0_ h1_ => retK (buildS i_Grid_walks_r0 [.n r_n_, .n r_l_, .n r_c_, .p h0_, .r h1_]) K)
    | _ => none)
theorem E_i_Grid_walks_ok {α : Type} (N : Nat) : EnvOk Try.prog (E_i_Grid_walks α N) := (E_i_Grid_walks_l0_ok N).addFun prog_mixed prog_names (d := 1) fun l K r h => by
  split at h
  · exact (i_Grid_walks_run N _ _ _ K).trans h
  · cases h
def A_i_CuspWords_1_l0 (α : Type) (N : Nat) : Env α := (E_i_Grid_walks α N).addAnn 167 3 { head := [3, 4, 14, 15, 16], grow := [4], out := [4], ret := [2] }
theorem A_i_CuspWords_1_l0_ok {α : Type} (N : Nat) : EnvOk Try.prog (A_i_CuspWords_1_l0 α N) := (E_i_Grid_walks_ok N).addAnn
def A_i_CuspWords_1_l1 (α : Type) (N : Nat) : Env α := (A_i_CuspWords_1_l0 α N).addAnn 167 7 { head := [3, 4, 7, 14, 15, 16, 20, 21, 22], grow := [], out := [3, 4, 7, 14, 15, 16], ret := [2] }
theorem A_i_CuspWords_1_l1_ok {α : Type} (N : Nat) : EnvOk Try.prog (A_i_CuspWords_1_l1 α N) := (A_i_CuspWords_1_l0_ok N).addAnn
def i_CuspWords_1_l1_p : SPat := ⟨[.undef, .undef, .undef, .sliceV 1 0 0 4 false, .sliceV 2 0 0 1 false, .undef, .undef, .str, .undef, .undef, .undef, .undef, .undef, .undef, .sliceV 3 0 0 1 false, .int .i64, .int .i64, .undef, .undef, .undef, .sliceR 4 1 false, .int .i64, .int .i64] ++ List.replicate 26 .undef, [[.vals [.int .i64], .ints .u8 8, .ints .u8 8], [.recs [some IntKind.i64, some IntKind.i64, some IntKind.i64, none]], [.strs], [.hdr 4], [.pool .i64]]⟩
def i_CuspWords_1_l1_o0 : SPat := ⟨[.undef, .undef, .undef, .sliceV 1 0 0 4 false, .sliceV 2 0 0 1 false, .undef, .undef, .str, .undef, .undef, .undef, .undef, .undef, .undef, .sliceV 3 0 0 1 false, .int .i64, .int .i64] ++ List.replicate 32 .undef, [[.vals [.int .i64], .ints .u8 8, .ints .u8 8], [.recs [some IntKind.i64, some IntKind.i64, some IntKind.i64, none]], [.strs], [.hdr 4], [.pool .i64]]⟩
theorem i_CuspWords_1_l1_round {α : Type} (N : Nat) (list_n : Nat) (list_l : Nat) (list_c : Nat) (out_n : Nat) (out_l : Nat) (out_c : Nat) (word : List UInt8) (t14_n : Nat) (t14_l : Nat) (t14_c : Nat) (t15 : Int) (t16 : Int) (t20_r : Nat) (t20_o : Nat) (t20_n : Nat) (t20_l : Nat) (t20_c : Nat) (t21 : Int) (t22 : Int) (h0_0 : Int) (h0_1 : NI) (h0_2 : NI) (h1 : List Int) (h2 : List (List UInt8)) (h3 : List (Nat × Nat)) (h4 : List (List Int)) (kn : St -> Option α) (K : AExit -> St -> Option α) :
    roundK Try.prog (A_i_CuspWords_1_l1 α N) 1 0 167 Try.f167 7 5 (buildS i_CuspWords_1_l1_p [.n list_n, .n list_l, .n list_c, .n out_n, .n out_l, .n out_c, .s word, .n t14_n, .n t14_l, .n t14_c, .i t15, .i t16, .n t20_r, .n t20_o, .n t20_n, .n t20_l, .n t20_c, .i t21, .i t22, .i h0_0, .f h0_1, .f h0_2, .l h1, .t h2, .p h3, .r h4]) kn K = i_CuspWords_1_l1_s none N list_n list_l list_c out_n out_l out_c t14_n t14_l t14_c t15 t16 t20_r t20_o t20_n t20_l t20_c t21 h0_0 h0_1 h0_2 h1 h2 h3 h4 word t22 (fun word t22 => kn (buildS i_CuspWords_1_l1_p [.n list_n, .n list_l, .n list_c, .n out_n, .n out_l, .n out_c, .s word, .n t14_n, .n t14_l, .n t14_c, .i t15, .i t16, .n t20_r, .n t20_o, .n t20_n, .n t20_l, .n t20_c, .i t21, .i t22, .i h0_0, .f h0_1, .f h0_2, .l h1, .t h2, .p h3, .r h4])) (fun word_ => K (.exit 2) (buildS i_CuspWords_1_l1_o0 [.n list_n, .n list_l, .n list_c, .n out_n, .n out_l, .n out_c, .s word_, .n t14_n, .n t14_l, .n t14_c, .i t15, .i t16, .i h0_0, .f h0_1, .f h0_2, .l h1, .t h2, .p h3, .r h4])) := by kernel_rfl
theorem i_CuspWords_1_l1_loop {α : Type} (N : Nat) (list_n : Nat) (list_l : Nat) (list_c : Nat) (out_n : Nat) (out_l : Nat) (out_c : Nat) (t14_n : Nat) (t14_l : Nat) (t14_c : Nat) (t15 : Int) (t16 : Int) (t20_r : Nat) (t20_o : Nat) (t20_n : Nat) (t20_l : Nat) (t20_c : Nat) (t21 : Int) (h0_0 : Int) (h0_1 : NI) (h0_2 : NI) (h1 : List Int) (h2 : List (List UInt8)) (h3 : List (Nat × Nat)) (h4 : List (List Int)) (K : AExit -> St -> Option α) : ∀ (m : Nat) (word : List UInt8) (t22 : Int),
    loopN (trimSt ((A_i_CuspWords_1_l1 α N).ann 167 7).head ((A_i_CuspWords_1_l1 α N).ann 167 7).grow 5) (bodyK Try.prog (A_i_CuspWords_1_l1 α N) 1 0 167 Try.f167 7) m (buildS i_CuspWords_1_l1_p [.n list_n, .n list_l, .n list_c, .n out_n, .n out_l, .n out_c, .s word, .n t14_n, .n t14_l, .n t14_c, .i t15, .i t16, .n t20_r, .n t20_o, .n t20_n, .n t20_l, .n t20_c, .i t21, .i t22, .i h0_0, .f h0_1, .f h0_2, .l h1, .t h2, .p h3, .r h4]) (leaveLoop ((A_i_CuspWords_1_l1 α N).ann 167 7) 5 K) = i_CuspWords_1_l1 none N list_n list_l list_c out_n out_l out_c t14_n t14_l t14_c t15 t16 t20_r t20_o t20_n t20_l t20_c t21 h0_0 h0_1 h0_2 h1 h2 h3 h4 m word t22 (fun word_ => K (.exit 2) (buildS i_CuspWords_1_l1_o0 [.n list_n, .n list_l, .n list_c, .n out_n, .n out_l, .n out_c, .s word_, .n t14_n, .n t14_l, .n t14_c, .i t15, .i t16, .i h0_0, .f h0_1, .f h0_2, .l h1, .t h2, .p h3, .r h4])) := by
  intro m
  induction m with
  | zero => intros; rfl
  | succ m ih =>
    intro word t22
    rw [loopN_round]
    refine (i_CuspWords_1_l1_round N list_n list_l list_c out_n out_l out_c word t14_n t14_l t14_c t15 t16 t20_r t20_o t20_n t20_l t20_c t21 t22 h0_0 h0_1 h0_2 h1 h2 h3 h4 _ K).trans ?_
    simp only [ih]
    rfl
def E_i_CuspWords_1_l1 (α : Type) (N : Nat) : Env α := (A_i_CuspWords_1_l1 α N).addLoop2 167 7 (loopSum2 ((A_i_CuspWords_1_l1 α N).ann 167 7) 0 i_CuspWords_1_l1_p (fun l K => match l with
    | [.n list_n, .n list_l, .n list_c, .n out_n, .n out_l, .n out_c, .s word, .n t14_n, .n t14_l, .n t14_c, .i t15, .i t16, .n t20_r, .n t20_o, .n t20_n, .n t20_l, .n t20_c, .i t21, .i t22, .i h0_0, .f h0_1, .f h0_2, .l h1, .t h2, .p h3, .r h4] => i_CuspWords_1_l1 none N list_n list_l list_c out_n out_l out_c t14_n t14_l t14_c t15 t16 t20_r t20_o t20_n t20_l t20_c t21 h0_0 h0_1 h0_2 h1 h2 h3 h4 N word t22 (fun word_ => K (.exit 2) (buildS i_CuspWords_1_l1_o0 [.n list_n, .n list_l, .n list_c, .n out_n, .n out_l, .n out_c, .s word_, .n t14_n, .n t14_l, .n t14_c, .i t15, .i t16, .i h0_0, .f h0_1, .f h0_2, .l h1, .t h2, .p h3, .r h4]))
    | _ => none) ((A_i_CuspWords_1_l1 α N).ls 167 7))
theorem E_i_CuspWords_1_l1_ok {α : Type} (N : Nat) : EnvOk Try.prog (E_i_CuspWords_1_l1 α N) := (A_i_CuspWords_1_l1_ok N).addLoop2 Try.func167 (by kernel_rfl) (loopSum_ok prog_mixed prog_names (A_i_CuspWords_1_l1_ok N) Try.func167 (by kernel_rfl) (d := 1) (ro := 0) fun l K r h => by
  split at h
  · exact (i_CuspWords_1_l1_loop N _ _ _ _ _ _ _ _ _ _ _ _ _ _ _ _ _ _ _ _ _ _ _ _ K N _ _).trans h
  · cases h)
def i_CuspWords_1_l0_p : SPat := ⟨[.undef, .undef, .undef, .sliceV 1 0 0 4 false, .sliceV 2 0 0 1 false, .undef, .undef, .undef, .undef, .undef, .undef, .undef, .undef, .undef, .sliceV 3 0 0 1 false, .int .i64, .int .i64] ++ List.replicate 32 .undef, [[.vals [.int .i64], .ints .u8 8, .ints .u8 8], [.recs [some IntKind.i64, some IntKind.i64, some IntKind.i64, none]], [.strs], [.hdr 4], [.pool .i64]]⟩
def i_CuspWords_1_l0_o0 : SPat := ⟨[.undef, .undef, .undef, .undef, .sliceV 2 0 0 1 false] ++ List.replicate 44 .undef, [[.vals [.int .i64], .ints .u8 8, .ints .u8 8], [.recs [some IntKind.i64, some IntKind.i64, some IntKind.i64, none]], [.strs], [.hdr 4], [.pool .i64]]⟩
theorem i_CuspWords_1_l0_round {α : Type} (N : Nat) (list_n : Nat) (list_l : Nat) (list_c : Nat) (out_n : Nat) (out_l : Nat) (out_c : Nat) (t14_n : Nat) (t14_l : Nat) (t14_c : Nat) (t15 : Int) (t16 : Int) (h0_0 : Int) (h0_1 : NI) (h0_2 : NI) (h1 : List Int) (h2 : List (List UInt8)) (h3 : List (Nat × Nat)) (h4 : List (List Int)) (kn : St -> Option α) (K : AExit -> St -> Option α) :
    roundK Try.prog (E_i_CuspWords_1_l1 α N) 1 0 167 Try.f167 3 5 (buildS i_CuspWords_1_l0_p [.n list_n, .n list_l, .n list_c, .n out_n, .n out_l, .n out_c, .n t14_n, .n t14_l, .n t14_c, .i t15, .i t16, .i h0_0, .f h0_1, .f h0_2, .l h1, .t h2, .p h3, .r h4]) kn K = i_CuspWords_1_l0_s none N list_n list_l list_c t14_n t14_l t14_c t15 h0_0 h0_1 h0_2 h1 h3 h4 out_n out_l out_c t16 h2 (fun out_n out_l out_c t16 h2 => kn (buildS i_CuspWords_1_l0_p [.n list_n, .n list_l, .n list_c, .n out_n, .n out_l, .n out_c, .n t14_n, .n t14_l, .n t14_c, .i t15, .i t16, .i h0_0, .f h0_1, .f h0_2, .l h1, .t h2, .p h3, .r h4])) (fun out_n_ out_l_ out_c_ h2_ => K (.exit 0) (buildS i_CuspWords_1_l0_o0 [.n out_n_, .n out_l_, .n out_c_, .i h0_0, .f h0_1, .f h0_2, .l h1, .t h2_, .p h3, .r h4])) := by kernel_rfl
theorem i_CuspWords_1_l0_loop {α : Type} (N : Nat) (list_n : Nat) (list_l : Nat) (list_c : Nat) (t14_n : Nat) (t14_l : Nat) (t14_c : Nat) (t15 : Int) (h0_0 : Int) (h0_1 : NI) (h0_2 : NI) (h1 : List Int) (h3 : List (Nat × Nat)) (h4 : List (List Int)) (K : AExit -> St -> Option α) : ∀ (m : Nat) (out_n : Nat) (out_l : Nat) (out_c : Nat) (t16 : Int) (h2 : List (List UInt8)),
    loopN (trimSt ((E_i_CuspWords_1_l1 α N).ann 167 3).head ((E_i_CuspWords_1_l1 α N).ann 167 3).grow 5) (bodyK Try.prog (E_i_CuspWords_1_l1 α N) 1 0 167 Try.f167 3) m (buildS i_CuspWords_1_l0_p [.n list_n, .n list_l, .n list_c, .n out_n, .n out_l, .n out_c, .n t14_n, .n t14_l, .n t14_c, .i t15, .i t16, .i h0_0, .f h0_1, .f h0_2, .l h1, .t h2, .p h3, .r h4]) (leaveLoop ((E_i_CuspWords_1_l1 α N).ann 167 3) 5 K) = i_CuspWords_1_l0 none N list_n list_l list_c t14_n t14_l t14_c t15 h0_0 h0_1 h0_2 h1 h3 h4 m out_n out_l out_c t16 h2 (fun out_n_ out_l_ out_c_ h2_ => K (.exit 0) (buildS i_CuspWords_1_l0_o0 [.n out_n_, .n out_l_, .n out_c_, .i h0_0, .f h0_1, .f h0_2, .l h1, .t h2_, .p h3, .r h4])) := by
  intro m
  induction m with
  | zero => intros; rfl
  | succ m ih =>
    intro out_n out_l out_c t16 h2
    rw [loopN_round]
    refine (i_CuspWords_1_l0_round N list_n list_l list_c out_n out_l out_c t14_n t14_l t14_c t15 t16 h0_0 h0_1 h0_2 h1 h2 h3 h4 _ K).trans ?_
    simp only [ih]
    rfl
def E_i_CuspWords_1_l0 (α : Type) (N : Nat) : Env α := (E_i_CuspWords_1_l1 α N).addLoop2 167 3 (loopSum2 ((E_i_CuspWords_1_l1 α N).ann 167 3) 0 i_CuspWords_1_l0_p (fun l K => match l with
    | [.n list_n, .n list_l, .n list_c, .n out_n, .n out_l, .n out_c, .n t14_n, .n t14_l, .n t14_c, .i t15, .i t16, .i h0_0, .f h0_1, .f h0_2, .l h1, .t h2, .p h3, .r h4] => i_CuspWords_1_l0 none N list_n list_l list_c t14_n t14_l t14_c t15 h0_0 h0_1 h0_2 h1 h3 h4 N out_n out_l out_c t16 h2 (fun out_n_ out_l_ out_c_ h2_ => K (.exit 0) (buildS i_CuspWords_1_l0_o0 [.n out_n_, .n out_l_, .n out_c_, .i h0_0, .f h0_1, .f h0_2, .l h1, .t h2_, .p h3, .r h4]))
    | _ => none) ((E_i_CuspWords_1_l1 α N).ls 167 3))
theorem E_i_CuspWords_1_l0_ok {α : Type} (N : Nat) : EnvOk Try.prog (E_i_CuspWords_1_l0 α N) := (E_i_CuspWords_1_l1_ok N).addLoop2 Try.func167 (by kernel_rfl) (loopSum_ok prog_mixed prog_names (E_i_CuspWords_1_l1_ok N) Try.func167 (by kernel_rfl) (d := 1) (ro := 0) fun l K r h => by
  split at h
  · exact (i_CuspWords_1_l0_loop N _ _ _ _ _ _ _ _ _ _ _ _ _ K N _ _ _ _ _).trans h
  · cases h)
def i_CuspWords_1_a : SPat := ⟨[.agg [.vals [.int .i64], .ints .u8 8, .ints .u8 8]], []⟩
def i_CuspWords_1_r0 : SPat := ⟨[.sliceV 0 0 0 1 false], [[.strs]]⟩
theorem i_CuspWords_1_run {α : Type} (N : Nat) (g_0 : Int) (g_1 : NI) (g_2 : NI) (K : AV -> Heap -> Option α) :
    callK Try.prog (E_i_CuspWords_1_l0 α N) 1 167 0 (buildS i_CuspWords_1_a [.i g_0, .f g_1, .f g_2]).t (buildS i_CuspWords_1_a [.i g_0, .f g_1, .f g_2]).h K = i_CuspWords_1 none N g_0 g_1 g_2 (fun r_n_ r_l_ r_c_ h0_ => retK (buildS i_CuspWords_1_r0 [.n r_n_, .n r_l_, .n r_c_, .t h0_]) K) := by kernel_rfl
def E_i_CuspWords_1 (α : Type) (N : Nat) : Env α := (E_i_CuspWords_1_l0 α N).addFun 167 true 0 i_CuspWords_1_a (fun l K => match l with
    | [.i g_0, .f g_1, .f g_2] => i_CuspWords_1 none N g_0 g_1 g_2 (fun r_n_ r_l_ r_c_ h0_ => retK (buildS i_CuspWords_1_r0 [.n r_n_, .n r_l_, .n r_c_, .t h0_]) K)
    | _ => none)
theorem E_i_CuspWords_1_ok {α : Type} (N : Nat) : EnvOk Try.prog (E_i_CuspWords_1 α N) := (E_i_CuspWords_1_l0_ok N).addFun prog_mixed prog_names (d := 1) fun l K r h => by
  split at h
  · exact (i_CuspWords_1_run N _ _ _ K).trans h
  · cases h
def i_whole_string_a : SPat := ⟨[.agg [.vals [.int .i64], .ints .u8 8, .ints .u8 8], .func 167 []], []⟩
def i_whole_string_r0 : SPat := ⟨[.tuple [.nils, .int .i64]], []⟩
def i_whole_string_r1 : SPat := ⟨[.tuple [.sliceV 0 0 0 1 false, .int .i64]], [[.strs]]⟩
theorem i_whole_string_run {α : Type} (N : Nat) (g_0 : Int) (g_1 : NI) (g_2 : NI) (K : AV -> Heap -> Option α) :
    callK Try.prog (E_i_CuspWords_1 α N) 1 166 0 (buildS i_whole_string_a [.i g_0, .f g_1, .f g_2]).t (buildS i_whole_string_a [.i g_0, .f g_1, .f g_2]).h K = i_whole_string none N g_0 g_1 g_2 (fun r_1_ => retK (buildS i_whole_string_r0 [.i r_1_]) K) (fun r_0_n_ r_0_l_ r_0_c_ r_1_ h0_ => retK (buildS i_whole_string_r1 [.n r_0_n_, .n r_0_l_, .n r_0_c_, .i r_1_, .t h0_]) K) := by kernel_rfl
def E_i_whole_string (α : Type) (N : Nat) : Env α := (E_i_CuspWords_1 α N).addFun 166 true 0 i_whole_string_a (fun l K => match l with
    | [.i g_0, .f g_1, .f g_2] => i_whole_string none N g_0 g_1 g_2 (fun r_1_ => retK (buildS i_whole_string_r0 [.i r_1_]) K) (fun r_0_n_ r_0_l_ r_0_c_ r_1_ h0_ => retK (buildS i_whole_string_r1 [.n r_0_n_, .n r_0_l_, .n r_0_c_, .i r_1_, .t h0_]) K)
    | _ => none)
theorem E_i_whole_string_ok {α : Type} (N : Nat) : EnvOk Try.prog (E_i_whole_string α N) := (E_i_CuspWords_1_ok N).addFun prog_mixed prog_names (d := 1) fun l K r h => by
  split at h
  · exact (i_whole_string_run N _ _ _ K).trans h
  · cases h
def i_CuspWords_a : SPat := ⟨[.agg [.vals [.int .i64], .ints .u8 8, .ints .u8 8]], []⟩
def i_CuspWords_r0 : SPat := ⟨[.tuple [.nils, .int .i64]], []⟩
def i_CuspWords_r1 : SPat := ⟨[.tuple [.sliceV 0 0 0 1 false, .int .i64]], [[.strs]]⟩
theorem i_CuspWords_run {α : Type} (N : Nat) (g_0 : Int) (g_1 : NI) (g_2 : NI) (K : AV -> Heap -> Option α) :
    callK Try.prog (E_i_whole_string α N) 1 71 0 (buildS i_CuspWords_a [.i g_0, .f g_1, .f g_2]).t (buildS i_CuspWords_a [.i g_0, .f g_1, .f g_2]).h K = i_CuspWords none N g_0 g_1 g_2 (fun r_1_ => retK (buildS i_CuspWords_r0 [.i r_1_]) K) (fun r_0_n_ r_0_l_ r_0_c_ r_1_ h0_ => retK (buildS i_CuspWords_r1 [.n r_0_n_, .n r_0_l_, .n r_0_c_, .i r_1_, .t h0_]) K) := by kernel_rfl
def E_i_CuspWords (α : Type) (N : Nat) : Env α := (E_i_whole_string α N).addFun 71 true 0 i_CuspWords_a (fun l K => match l with
    | [.i g_0, .f g_1, .f g_2] => i_CuspWords none N g_0 g_1 g_2 (fun r_1_ => retK (buildS i_CuspWords_r0 [.i r_1_]) K) (fun r_0_n_ r_0_l_ r_0_c_ r_1_ h0_ => retK (buildS i_CuspWords_r1 [.n r_0_n_, .n r_0_l_, .n r_0_c_, .i r_1_, .t h0_]) K)
    | _ => none)
theorem E_i_CuspWords_ok {α : Type} (N : Nat) : EnvOk Try.prog (E_i_CuspWords α N) := (E_i_whole_string_ok N).addFun prog_mixed prog_names (d := 1) fun l K r h => by
  split at h
  · exact (i_CuspWords_run N _ _ _ K).trans h
  · cases h
def A_s_CuspWords_l0 (α : Type) (N : Nat) : Env α := (E_i_CuspWords α N).addAnn 72 6 { head := [1, 4, 5, 6, 7], grow := [6], out := [6], ret := [2, 3] }
theorem A_s_CuspWords_l0_ok {α : Type} (N : Nat) : EnvOk Try.prog (A_s_CuspWords_l0 α N) := (E_i_CuspWords_ok N).addAnn
def A_s_CuspWords_l1 (α : Type) (N : Nat) : Env α := (A_s_CuspWords_l0 α N).addAnn 72 9 { head := [1, 4, 5, 6, 7, 8], grow := [], out := [1, 4, 5, 6, 7, 8], ret := [2, 3] }
theorem A_s_CuspWords_l1_ok {α : Type} (N : Nat) : EnvOk Try.prog (A_s_CuspWords_l1 α N) := (A_s_CuspWords_l0_ok N).addAnn
def s_CuspWords_l1_p : SPat := ⟨[.undef, .ptr ⟨⟨0, 0⟩, 0, 0, 1⟩, .undef, .undef, .ptr ⟨⟨1, 0⟩, 0, 0, 8⟩, .int .i64, .sliceV 2 0 0 1 false, .int .i64, .int .i64] ++ List.replicate 44 .undef, [[.vals [.int .i64], .ints .u8 8, .ints .u8 8], [.ints .i64 8], [.strs]]⟩
def s_CuspWords_l1_o0 : SPat := ⟨[.undef, .ptr ⟨⟨0, 0⟩, 0, 0, 1⟩, .undef, .undef, .ptr ⟨⟨1, 0⟩, 0, 0, 8⟩, .int .i64, .sliceV 2 0 0 1 false, .int .i64, .int .i64] ++ List.replicate 44 .undef, [[.vals [.int .i64], .ints .u8 8, .ints .u8 8], [.ints .i64 8], [.strs]]⟩
theorem s_CuspWords_l1_round {α : Type} (N : Nat) (count : Int) (out_n : Nat) (out_l : Nat) (out_c : Nat) (c : Int) (start : Int) (h0_0 : Int) (h0_1 : NI) (h0_2 : NI) (h1 : NI) (h2 : List (List UInt8)) (kn : St -> Option α) (K : AExit -> St -> Option α) :
    roundK Try.prog (A_s_CuspWords_l1 α N) 1 0 72 Try.f72 9 3 (buildS s_CuspWords_l1_p [.i count, .n out_n, .n out_l, .n out_c, .i c, .i start, .i h0_0, .f h0_1, .f h0_2, .f h1, .t h2]) kn K = s_CuspWords_l1_s none count out_n out_l out_c c h0_0 h0_1 h0_2 h1 h2 start (fun start => kn (buildS s_CuspWords_l1_p [.i count, .n out_n, .n out_l, .n out_c, .i c, .i start, .i h0_0, .f h0_1, .f h0_2, .f h1, .t h2])) (fun start_ => K (.exit 2) (buildS s_CuspWords_l1_o0 [.i count, .n out_n, .n out_l, .n out_c, .i c, .i start_, .i h0_0, .f h0_1, .f h0_2, .f h1, .t h2])) := by kernel_rfl
theorem s_CuspWords_l1_loop {α : Type} (N : Nat) (count : Int) (out_n : Nat) (out_l : Nat) (out_c : Nat) (c : Int) (h0_0 : Int) (h0_1 : NI) (h0_2 : NI) (h1 : NI) (h2 : List (List UInt8)) (K : AExit -> St -> Option α) : ∀ (m : Nat) (start : Int),
    loopN (trimSt ((A_s_CuspWords_l1 α N).ann 72 9).head ((A_s_CuspWords_l1 α N).ann 72 9).grow 3) (bodyK Try.prog (A_s_CuspWords_l1 α N) 1 0 72 Try.f72 9) m (buildS s_CuspWords_l1_p [.i count, .n out_n, .n out_l, .n out_c, .i c, .i start, .i h0_0, .f h0_1, .f h0_2, .f h1, .t h2]) (leaveLoop ((A_s_CuspWords_l1 α N).ann 72 9) 3 K) = s_CuspWords_l1 none count out_n out_l out_c c h0_0 h0_1 h0_2 h1 h2 m start (fun start_ => K (.exit 2) (buildS s_CuspWords_l1_o0 [.i count, .n out_n, .n out_l, .n out_c, .i c, .i start_, .i h0_0, .f h0_1, .f h0_2, .f h1, .t h2])) := by
  intro m
  induction m with
  | zero => intros; rfl
  | succ m ih =>
    intro start
    rw [loopN_round]
    refine (s_CuspWords_l1_round N count out_n out_l out_c c start h0_0 h0_1 h0_2 h1 h2 _ K).trans ?_
    simp only [ih]
    rfl
def E_s_CuspWords_l1 (α : Type) (N : Nat) : Env α := (A_s_CuspWords_l1 α N).addLoop2 72 9 (loopSum2 ((A_s_CuspWords_l1 α N).ann 72 9) 0 s_CuspWords_l1_p (fun l K => match l with
    | [.i count, .n out_n, .n out_l, .n out_c, .i c, .i start, .i h0_0, .f h0_1, .f h0_2, .f h1, .t h2] => s_CuspWords_l1 none count out_n out_l out_c c h0_0 h0_1 h0_2 h1 h2 N start (fun start_ => K (.exit 2) (buildS s_CuspWords_l1_o0 [.i count, .n out_n, .n out_l, .n out_c, .i c, .i start_, .i h0_0, .f h0_1, .f h0_2, .f h1, .t h2]))
    | _ => none) ((A_s_CuspWords_l1 α N).ls 72 9))
theorem E_s_CuspWords_l1_ok {α : Type} (N : Nat) : EnvOk Try.prog (E_s_CuspWords_l1 α N) := (A_s_CuspWords_l1_ok N).addLoop2 Try.func72 (by kernel_rfl) (loopSum_ok prog_mixed prog_names (A_s_CuspWords_l1_ok N) Try.func72 (by kernel_rfl) (d := 1) (ro := 0) fun l K r h => by
  split at h
  · exact (s_CuspWords_l1_loop N _ _ _ _ _ _ _ _ _ _ K N _).trans h
  · cases h)
def A_s_CuspWords_l2 (α : Type) (N : Nat) : Env α := (E_s_CuspWords_l1 α N).addAnn 72 12 { head := [1, 4, 5, 6, 7, 8, 9, 10], grow := [], out := [1, 4, 5, 6, 7, 9], ret := [2, 3] }
theorem A_s_CuspWords_l2_ok {α : Type} (N : Nat) : EnvOk Try.prog (A_s_CuspWords_l2 α N) := (E_s_CuspWords_l1_ok N).addAnn
def s_l07Letter_a : SPat := ⟨[.agg [.vals [.int .i64], .ints .u8 8, .ints .u8 8], .int .i64, .bool], []⟩
def s_l07Letter_r0 : SPat := ⟨[.str], []⟩
theorem s_l07Letter_run {α : Type} (N : Nat) (g_0 : Int) (g_1 : NI) (g_2 : NI) (i : Int) (isX : Bool) (K : AV -> Heap -> Option α) :
    callK Try.prog (A_s_CuspWords_l2 α N) 1 170 0 (buildS s_l07Letter_a [.i g_0, .f g_1, .f g_2, .i i, .b isX]).t (buildS s_l07Letter_a [.i g_0, .f g_1, .f g_2, .i i, .b isX]).h K = s_l07Letter none N g_0 g_1 g_2 i isX (fun r__ => retK (buildS s_l07Letter_r0 [.s r__]) K) := by kernel_rfl
def E_s_l07Letter (α : Type) (N : Nat) : Env α := (A_s_CuspWords_l2 α N).addFun 170 true 0 s_l07Letter_a (fun l K => match l with
    | [.i g_0, .f g_1, .f g_2, .i i, .b isX] => s_l07Letter none N g_0 g_1 g_2 i isX (fun r__ => retK (buildS s_l07Letter_r0 [.s r__]) K)
    | _ => none)
theorem E_s_l07Letter_ok {α : Type} (N : Nat) : EnvOk Try.prog (E_s_l07Letter α N) := (A_s_CuspWords_l2_ok N).addFun prog_mixed prog_names (d := 1) fun l K r h => by
  split at h
  · exact (s_l07Letter_run N _ _ _ _ _ K).trans h
  · cases h
def s_CuspWords_l2_p : SPat := ⟨[.undef, .ptr ⟨⟨0, 0⟩, 0, 0, 1⟩, .undef, .undef, .ptr ⟨⟨1, 0⟩, 0, 0, 8⟩, .int .i64, .sliceV 2 0 0 1 false, .int .i64, .int .i64, .str, .int .i64] ++ List.replicate 42 .undef, [[.vals [.int .i64], .ints .u8 8, .ints .u8 8], [.ints .i64 8], [.strs]]⟩
def s_CuspWords_l2_o0 : SPat := ⟨[.undef, .ptr ⟨⟨0, 0⟩, 0, 0, 1⟩, .undef, .undef, .ptr ⟨⟨1, 0⟩, 0, 0, 8⟩, .int .i64, .sliceV 2 0 0 1 false, .int .i64, .undef, .str] ++ List.replicate 43 .undef, [[.vals [.int .i64], .ints .u8 8, .ints .u8 8], [.ints .i64 8], [.strs]]⟩
theorem s_CuspWords_l2_round {α : Type} (N : Nat) (count : Int) (out_n : Nat) (out_l : Nat) (out_c : Nat) (c : Int) (start : Int) (text : List UInt8) (i : Int) (h0_0 : Int) (h0_1 : NI) (h0_2 : NI) (h1 : NI) (h2 : List (List UInt8)) (kn : St -> Option α) (K : AExit -> St -> Option α) :
    roundK Try.prog (E_s_l07Letter α N) 1 0 72 Try.f72 12 3 (buildS s_CuspWords_l2_p [.i count, .n out_n, .n out_l, .n out_c, .i c, .i start, .s text, .i i, .i h0_0, .f h0_1, .f h0_2, .f h1, .t h2]) kn K = s_CuspWords_l2_s none N count out_n out_l out_c c start h0_0 h0_1 h0_2 h1 h2 text i (fun text i => kn (buildS s_CuspWords_l2_p [.i count, .n out_n, .n out_l, .n out_c, .i c, .i start, .s text, .i i, .i h0_0, .f h0_1, .f h0_2, .f h1, .t h2])) (fun text_ => K (.exit 4) (buildS s_CuspWords_l2_o0 [.i count, .n out_n, .n out_l, .n out_c, .i c, .s text_, .i h0_0, .f h0_1, .f h0_2, .f h1, .t h2])) := by kernel_rfl
theorem s_CuspWords_l2_loop {α : Type} (N : Nat) (count : Int) (out_n : Nat) (out_l : Nat) (out_c : Nat) (c : Int) (start : Int) (h0_0 : Int) (h0_1 : NI) (h0_2 : NI) (h1 : NI) (h2 : List (List UInt8)) (K : AExit -> St -> Option α) : ∀ (m : Nat) (text : List UInt8) (i : Int),
    loopN (trimSt ((E_s_l07Letter α N).ann 72 12).head ((E_s_l07Letter α N).ann 72 12).grow 3) (bodyK Try.prog (E_s_l07Letter α N) 1 0 72 Try.f72 12) m (buildS s_CuspWords_l2_p [.i count, .n out_n, .n out_l, .n out_c, .i c, .i start, .s text, .i i, .i h0_0, .f h0_1, .f h0_2, .f h1, .t h2]) (leaveLoop ((E_s_l07Letter α N).ann 72 12) 3 K) = s_CuspWords_l2 none N count out_n out_l out_c c start h0_0 h0_1 h0_2 h1 h2 m text i (fun text_ => K (.exit 4) (buildS s_CuspWords_l2_o0 [.i count, .n out_n, .n out_l, .n out_c, .i c, .s text_, .i h0_0, .f h0_1, .f h0_2, .f h1, .t h2])) := by
  intro m
  induction m with
  | zero => intros; rfl
  | succ m ih =>
    intro text i
    rw [loopN_round]
    refine (s_CuspWords_l2_round N count out_n out_l out_c c start text i h0_0 h0_1 h0_2 h1 h2 _ K).trans ?_
    simp only [ih]
    rfl
def E_s_CuspWords_l2 (α : Type) (N : Nat) : Env α := (E_s_l07Letter α N).addLoop2 72 12 (loopSum2 ((E_s_l07Letter α N).ann 72 12) 0 s_CuspWords_l2_p (fun l K => match l with
    | [.i count, .n out_n, .n out_l, .n out_c, .i c, .i start, .s text, .i i, .i h0_0, .f h0_1, .f h0_2, .f h1, .t h2] => s_CuspWords_l2 none N count out_n out_l out_c c start h0_0 h0_1 h0_2 h1 h2 N text i (fun text_ => K (.exit 4) (buildS s_CuspWords_l2_o0 [.i count, .n out_n, .n out_l, .n out_c, .i c, .s text_, .i h0_0, .f h0_1, .f h0_2, .f h1, .t h2]))
    | _ => none) ((E_s_l07Letter α N).ls 72 12))
theorem E_s_CuspWords_l2_ok {α : Type} (N : Nat) : EnvOk Try.prog (E_s_CuspWords_l2 α N) := (E_s_l07Letter_ok N).addLoop2 Try.func72 (by kernel_rfl) (loopSum_ok prog_mixed prog_names (E_s_l07Letter_ok N) Try.func72 (by kernel_rfl) (d := 1) (ro := 0) fun l K r h => by
  split at h
  · exact (s_CuspWords_l2_loop N _ _ _ _ _ _ _ _ _ _ _ K N _ _).trans h
  · cases h)
def s_CuspWords_l0_p : SPat := ⟨[.undef, .ptr ⟨⟨0, 0⟩, 0, 0, 1⟩, .undef, .undef, .ptr ⟨⟨1, 0⟩, 0, 0, 8⟩, .int .i64, .sliceV 2 0 0 1 false, .int .i64] ++ List.replicate 45 .undef, [[.vals [.int .i64], .ints .u8 8, .ints .u8 8], [.ints .i64 8], [.strs]]⟩
def s_CuspWords_l0_o0 : SPat := ⟨[.undef, .undef, .undef, .undef, .undef, .undef, .sliceV 2 0 0 1 false] ++ List.replicate 46 .undef, [[.vals [.int .i64], .ints .u8 8, .ints .u8 8], [.ints .i64 8], [.strs]]⟩
theorem s_CuspWords_l0_round {α : Type} (N : Nat) (count : Int) (out_n : Nat) (out_l : Nat) (out_c : Nat) (c : Int) (h0_0 : Int) (h0_1 : NI) (h0_2 : NI) (h1 : NI) (h2 : List (List UInt8)) (kn : St -> Option α) (K : AExit -> St -> Option α) :
    roundK Try.prog (E_s_CuspWords_l2 α N) 1 0 72 Try.f72 6 3 (buildS s_CuspWords_l0_p [.i count, .n out_n, .n out_l, .n out_c, .i c, .i h0_0, .f h0_1, .f h0_2, .f h1, .t h2]) kn K = s_CuspWords_l0_s none N count h0_0 h0_1 h0_2 h1 out_n out_l out_c c h2 (fun out_n out_l out_c c h2 => kn (buildS s_CuspWords_l0_p [.i count, .n out_n, .n out_l, .n out_c, .i c, .i h0_0, .f h0_1, .f h0_2, .f h1, .t h2])) (fun out_n_ out_l_ out_c_ h2_ => K (.exit 0) (buildS s_CuspWords_l0_o0 [.n out_n_, .n out_l_, .n out_c_, .i h0_0, .f h0_1, .f h0_2, .f h1, .t h2_])) := by kernel_rfl
theorem s_CuspWords_l0_loop {α : Type} (N : Nat) (count : Int) (h0_0 : Int) (h0_1 : NI) (h0_2 : NI) (h1 : NI) (K : AExit -> St -> Option α) : ∀ (m : Nat) (out_n : Nat) (out_l : Nat) (out_c : Nat) (c : Int) (h2 : List (List UInt8)),
    loopN (trimSt ((E_s_CuspWords_l2 α N).ann 72 6).head ((E_s_CuspWords_l2 α N).ann 72 6).grow 3) (bodyK Try.prog (E_s_CuspWords_l2 α N) 1 0 72 Try.f72 6) m (buildS s_CuspWords_l0_p [.i count, .n out_n, .n out_l, .n out_c, .i c, .i h0_0, .f h0_1, .f h0_2, .f h1, .t h2]) (leaveLoop ((E_s_CuspWords_l2 α N).ann 72 6) 3 K) = s_CuspWords_l0 none N count h0_0 h0_1 h0_2 h1 m out_n out_l out_c c h2 (fun out_n_ out_l_ out_c_ h2_ => K (.exit 0) (buildS s_CuspWords_l0_o0 [.n out_n_, .n out_l_, .n out_c_, .i h0_0, .f h0_1, .f h0_2, .f h1, .t h2_])) := by
  intro m
  induction m with
  | zero => intros; rfl
  | succ m ih =>
    intro out_n out_l out_c c h2
    rw [loopN_round]
    refine (s_CuspWords_l0_round N count out_n out_l out_c c h0_0 h0_1 h0_2 h1 h2 _ K).trans ?_
    simp only [ih]
    rfl
def E_s_CuspWords_l0 (α : Type) (N : Nat) : Env α := (E_s_CuspWords_l2 α N).addLoop2 72 6 (loopSum2 ((E_s_CuspWords_l2 α N).ann 72 6) 0 s_CuspWords_l0_p (fun l K => match l with
    | [.i count, .n out_n, .n out_l, .n out_c, .i c, .i h0_0, .f h0_1, .f h0_2, .f h1, .t h2] => s_CuspWords_l0 none N count h0_0 h0_1 h0_2 h1 N out_n out_l out_c c h2 (fun out_n_ out_l_ out_c_ h2_ => K (.exit 0) (buildS s_CuspWords_l0_o0 [.n out_n_, .n out_l_, .n out_c_, .i h0_0, .f h0_1, .f h0_2, .f h1, .t h2_]))
    | _ => none) ((E_s_CuspWords_l2 α N).ls 72 6))
theorem E_s_CuspWords_l0_ok {α : Type} (N : Nat) : EnvOk Try.prog (E_s_CuspWords_l0 α N) := (E_s_CuspWords_l2_ok N).addLoop2 Try.func72 (by kernel_rfl) (loopSum_ok prog_mixed prog_names (E_s_CuspWords_l2_ok N) Try.func72 (by kernel_rfl) (d := 1) (ro := 0) fun l K r h => by
  split at h
  · exact (s_CuspWords_l0_loop N _ _ _ _ _ K N _ _ _ _ _).trans h
  · cases h)
def s_CuspWords_a : SPat := ⟨[.agg [.vals [.int .i64], .ints .u8 8, .ints .u8 8]], []⟩
def s_CuspWords_r0 : SPat := ⟨[.tuple [.nils, .int .i64]], []⟩
def s_CuspWords_r1 : SPat := ⟨[.tuple [.sliceV 0 0 0 1 false, .int .i64]], [[.strs]]⟩
theorem s_CuspWords_run {α : Type} (N : Nat) (g_0 : Int) (g_1 : NI) (g_2 : NI) (K : AV -> Heap -> Option α) :
    callK Try.prog (E_s_CuspWords_l0 α N) 1 72 0 (buildS s_CuspWords_a [.i g_0, .f g_1, .f g_2]).t (buildS s_CuspWords_a [.i g_0, .f g_1, .f g_2]).h K = s_CuspWords none N g_0 g_1 g_2 (fun r_1_ => retK (buildS s_CuspWords_r0 [.i r_1_]) K) (fun r_0_n_ r_0_l_ r_0_c_ r_1_ h0_ => retK (buildS s_CuspWords_r1 [.n r_0_n_, .n r_0_l_, .n r_0_c_, .i r_1_, .t h0_]) K) := by kernel_rfl
def E_s_CuspWords (α : Type) (N : Nat) : Env α := (E_s_CuspWords_l0 α N).addFun 72 true 0 s_CuspWords_a (fun l K => match l with
    | [.i g_0, .f g_1, .f g_2] => s_CuspWords none N g_0 g_1 g_2 (fun r_1_ => retK (buildS s_CuspWords_r0 [.i r_1_]) K) (fun r_0_n_ r_0_l_ r_0_c_ r_1_ h0_ => retK (buildS s_CuspWords_r1 [.n r_0_n_, .n r_0_l_, .n r_0_c_, .i r_1_, .t h0_]) K)
    | _ => none)
theorem E_s_CuspWords_ok {α : Type} (N : Nat) : EnvOk Try.prog (E_s_CuspWords α N) := (E_s_CuspWords_l0_ok N).addFun prog_mixed prog_names (d := 1) fun l K r h => by
  split at h
  · exact (s_CuspWords_run N _ _ _ K).trans h
  · cases h
def A_i_TurnNumbers_1_l0 (α : Type) (N : Nat) : Env α := (E_s_CuspWords α N).addAnn 171 3 { head := [1, 3, 5], grow := [3], out := [3], ret := [2] }
theorem A_i_TurnNumbers_1_l0_ok {α : Type} (N : Nat) : EnvOk Try.prog (A_i_TurnNumbers_1_l0 α N) := (E_s_CuspWords_ok N).addAnn
def i_front_add_a : SPat := ⟨[.ptr ⟨⟨0, 0⟩, 0, 0, 3⟩, .agg [.vals [.int .i64, .int .i64, .int .i64, .bool]]], [[.ints .i64 3]]⟩
def i_front_add_r0 : SPat := ⟨[.tuple []], [[.ints .i64 3]]⟩
theorem i_front_add_run {α : Type} (N : Nat) (c_0 : Int) (c_1 : Int) (c_2 : Int) (c_3 : Bool) (h0 : NI) (K : AV -> Heap -> Option α) :
    callK Try.prog (A_i_TurnNumbers_1_l0 α N) 1 97 0 (buildS i_front_add_a [.i c_0, .i c_1, .i c_2, .b c_3, .f h0]).t (buildS i_front_add_a [.i c_0, .i c_1, .i c_2, .b c_3, .f h0]).h K = i_front_add none N c_0 c_1 c_2 c_3 h0 (fun h0_ => retK (buildS i_front_add_r0 [.f h0_]) K) := by kernel_rfl
def E_i_front_add (α : Type) (N : Nat) : Env α := (A_i_TurnNumbers_1_l0 α N).addFun 97 false 0 i_front_add_a (fun l K => match l with
    | [.i c_0, .i c_1, .i c_2, .b c_3, .f h0] => i_front_add none N c_0 c_1 c_2 c_3 h0 (fun h0_ => retK (buildS i_front_add_r0 [.f h0_]) K)
    | _ => none)
theorem E_i_front_add_ok {α : Type} (N : Nat) : EnvOk Try.prog (E_i_front_add α N) := (A_i_TurnNumbers_1_l0_ok N).addFun prog_mixed prog_names (d := 1) fun l K r h => by
  split at h
  · exact (i_front_add_run N _ _ _ _ _ K).trans h
  · cases h
def A_i_Grid_front_l0 (α : Type) (N : Nat) : Env α := (E_i_front_add α N).addAnn 142 3 { head := [2, 3, 8, 9, 10], grow := [], out := [2, 3], ret := [2] }
theorem A_i_Grid_front_l0_ok {α : Type} (N : Nat) : EnvOk Try.prog (A_i_Grid_front_l0 α N) := (E_i_front_add_ok N).addAnn
def i_Grid_front_l0_p : SPat := ⟨[.undef, .undef, .ptr ⟨⟨1, 0⟩, 0, 0, 3⟩, .ptr ⟨⟨2, 0⟩, 0, 0, 3⟩, .undef, .undef, .undef, .undef, .sliceV 3 0 0 4 false, .int .i64, .int .i64] ++ List.replicate 7 .undef, [[.vals [.int .i64], .ints .u8 8, .ints .u8 8], [.ints .i64 3], [.ints .i64 3], [.recs [some IntKind.i64, some IntKind.i64, some IntKind.i64, none]]]⟩
def i_Grid_front_l0_o0 : SPat := ⟨[.undef, .undef, .ptr ⟨⟨1, 0⟩, 0, 0, 3⟩, .ptr ⟨⟨2, 0⟩, 0, 0, 3⟩] ++ List.replicate 14 .undef, [[.vals [.int .i64], .ints .u8 8, .ints .u8 8], [.ints .i64 3], [.ints .i64 3], [.recs [some IntKind.i64, some IntKind.i64, some IntKind.i64, none]]]⟩
theorem i_Grid_front_l0_round {α : Type} (N : Nat) (t8_n : Nat) (t8_l : Nat) (t8_c : Nat) (t9 : Int) (t10 : Int) (h0_0 : Int) (h0_1 : NI) (h0_2 : NI) (h1 : NI) (h2 : NI) (h3 : List Int) (kn : St -> Option α) (K : AExit -> St -> Option α) :
    roundK Try.prog (A_i_Grid_front_l0 α N) 1 0 142 Try.f142 3 4 (buildS i_Grid_front_l0_p [.n t8_n, .n t8_l, .n t8_c, .i t9, .i t10, .i h0_0, .f h0_1, .f h0_2, .f h1, .f h2, .l h3]) kn K = i_Grid_front_l0_s none N t8_n t8_l t8_c t9 h0_0 h0_1 h0_2 h1 h3 t10 h2 (fun t10 h2 => kn (buildS i_Grid_front_l0_p [.n t8_n, .n t8_l, .n t8_c, .i t9, .i t10, .i h0_0, .f h0_1, .f h0_2, .f h1, .f h2, .l h3])) (fun h2_ => K (.exit 0) (buildS i_Grid_front_l0_o0 [.i h0_0, .f h0_1, .f h0_2, .f h1, .f h2_, .l h3])) := by kernel_rfl
theorem i_Grid_front_l0_loop {α : Type} (N : Nat) (t8_n : Nat) (t8_l : Nat) (t8_c : Nat) (t9 : Int) (h0_0 : Int) (h0_1 : NI) (h0_2 : NI) (h1 : NI) (h3 : List Int) (K : AExit -> St -> Option α) : ∀ (m : Nat) (t10 : Int) (h2 : NI),
    loopN (trimSt ((A_i_Grid_front_l0 α N).ann 142 3).head ((A_i_Grid_front_l0 α N).ann 142 3).grow 4) (bodyK Try.prog (A_i_Grid_front_l0 α N) 1 0 142 Try.f142 3) m (buildS i_Grid_front_l0_p [.n t8_n, .n t8_l, .n t8_c, .i t9, .i t10, .i h0_0, .f h0_1, .f h0_2, .f h1, .f h2, .l h3]) (leaveLoop ((A_i_Grid_front_l0 α N).ann 142 3) 4 K) = i_Grid_front_l0 none N t8_n t8_l t8_c t9 h0_0 h0_1 h0_2 h1 h3 m t10 h2 (fun h2_ => K (.exit 0) (buildS i_Grid_front_l0_o0 [.i h0_0, .f h0_1, .f h0_2, .f h1, .f h2_, .l h3])) := by
  intro m
  induction m with
  | zero => intros; rfl
  | succ m ih =>
    intro t10 h2
    rw [loopN_round]
    refine (i_Grid_front_l0_round N t8_n t8_l t8_c t9 t10 h0_0 h0_1 h0_2 h1 h2 h3 _ K).trans ?_
    simp only [ih]
    rfl
def E_i_Grid_front_l0 (α : Type) (N : Nat) : Env α := (A_i_Grid_front_l0 α N).addLoop2 142 3 (loopSum2 ((A_i_Grid_front_l0 α N).ann 142 3) 0 i_Grid_front_l0_p (fun l K => match l with
    | [.n t8_n, .n t8_l, .n t8_c, .i t9, .i t10, .i h0_0, .f h0_1, .f h0_2, .f h1, .f h2, .l h3] => i_Grid_front_l0 none N t8_n t8_l t8_c t9 h0_0 h0_1 h0_2 h1 h3 N t10 h2 (fun h2_ => K (.exit 0) (buildS i_Grid_front_l0_o0 [.i h0_0, .f h0_1, .f h0_2, .f h1, .f h2_, .l h3]))
    | _ => none) ((A_i_Grid_front_l0 α N).ls 142 3))
theorem E_i_Grid_front_l0_ok {α : Type} (N : Nat) : EnvOk Try.prog (E_i_Grid_front_l0 α N) := (A_i_Grid_front_l0_ok N).addLoop2 Try.func142 (by kernel_rfl) (loopSum_ok prog_mixed prog_names (A_i_Grid_front_l0_ok N) Try.func142 (by kernel_rfl) (d := 1) (ro := 0) fun l K r h => by
  split at h
  · exact (i_Grid_front_l0_loop N _ _ _ _ _ _ _ _ _ K N _ _).trans h
  · cases h)
def i_Grid_front_a : SPat := ⟨[.agg [.vals [.int .i64], .ints .u8 8, .ints .u8 8]], []⟩
def i_Grid_front_r0 : SPat := ⟨[.agg [.ints .i64 3]], []⟩
theorem i_Grid_front_run {α : Type} (N : Nat) (g_0 : Int) (g_1 : NI) (g_2 : NI) (K : AV -> Heap -> Option α) :
    callK Try.prog (E_i_Grid_front_l0 α N) 1 142 0 (buildS i_Grid_front_a [.i g_0, .f g_1, .f g_2]).t (buildS i_Grid_front_a [.i g_0, .f g_1, .f g_2]).h K = i_Grid_front none N g_0 g_1 g_2 (fun r__ => retK (buildS i_Grid_front_r0 [.f r__]) K) := by kernel_rfl
def E_i_Grid_front (α : Type) (N : Nat) : Env α := (E_i_Grid_front_l0 α N).addFun 142 true 0 i_Grid_front_a (fun l K => match l with
    | [.i g_0, .f g_1, .f g_2] => i_Grid_front none N g_0 g_1 g_2 (fun r__ => retK (buildS i_Grid_front_r0 [.f r__]) K)
    | _ => none)
theorem E_i_Grid_front_ok {α : Type} (N : Nat) : EnvOk Try.prog (E_i_Grid_front α N) := (E_i_Grid_front_l0_ok N).addFun prog_mixed prog_names (d := 1) fun l K r h => by
  split at h
  · exact (i_Grid_front_run N _ _ _ K).trans h
  · cases h
def A_i_Grid_writhe_l0 (α : Type) (N : Nat) : Env α := (E_i_Grid_front α N).addAnn 147 3 { head := [3, 7, 8, 9], grow := [], out := [3], ret := [2] }
theorem A_i_Grid_writhe_l0_ok {α : Type} (N : Nat) : EnvOk Try.prog (A_i_Grid_writhe_l0 α N) := (E_i_Grid_front_ok N).addAnn
def i_Grid_writhe_l0_p : SPat := ⟨[.undef, .undef, .undef, .int .i64, .undef, .undef, .undef, .sliceV 1 0 0 3 false, .int .i64, .int .i64] ++ List.replicate 9 .undef, [[.vals [.int .i64], .ints .u8 8, .ints .u8 8], [.vec .i64]]⟩
def i_Grid_writhe_l0_o0 : SPat := ⟨[.undef, .undef, .undef, .int .i64] ++ List.replicate 15 .undef, [[.vals [.int .i64], .ints .u8 8, .ints .u8 8], [.vec .i64]]⟩
theorem i_Grid_writhe_l0_round {α : Type} (N : Nat) (sum : Int) (t7_n : Nat) (t7_l : Nat) (t7_c : Nat) (t8 : Int) (t9 : Int) (h0_0 : Int) (h0_1 : NI) (h0_2 : NI) (h1 : List Int) (kn : St -> Option α) (K : AExit -> St -> Option α) :
    roundK Try.prog (A_i_Grid_writhe_l0 α N) 1 0 147 Try.f147 3 2 (buildS i_Grid_writhe_l0_p [.i sum, .n t7_n, .n t7_l, .n t7_c, .i t8, .i t9, .i h0_0, .f h0_1, .f h0_2, .l h1]) kn K = i_Grid_writhe_l0_s none t7_n t7_l t7_c t8 h0_0 h0_1 h0_2 h1 sum t9 (fun sum t9 => kn (buildS i_Grid_writhe_l0_p [.i sum, .n t7_n, .n t7_l, .n t7_c, .i t8, .i t9, .i h0_0, .f h0_1, .f h0_2, .l h1])) (fun sum_ => K (.exit 0) (buildS i_Grid_writhe_l0_o0 [.i sum_, .i h0_0, .f h0_1, .f h0_2, .l h1])) := by kernel_rfl
theorem i_Grid_writhe_l0_loop {α : Type} (N : Nat) (t7_n : Nat) (t7_l : Nat) (t7_c : Nat) (t8 : Int) (h0_0 : Int) (h0_1 : NI) (h0_2 : NI) (h1 : List Int) (K : AExit -> St -> Option α) : ∀ (m : Nat) (sum : Int) (t9 : Int),
    loopN (trimSt ((A_i_Grid_writhe_l0 α N).ann 147 3).head ((A_i_Grid_writhe_l0 α N).ann 147 3).grow 2) (bodyK Try.prog (A_i_Grid_writhe_l0 α N) 1 0 147 Try.f147 3) m (buildS i_Grid_writhe_l0_p [.i sum, .n t7_n, .n t7_l, .n t7_c, .i t8, .i t9, .i h0_0, .f h0_1, .f h0_2, .l h1]) (leaveLoop ((A_i_Grid_writhe_l0 α N).ann 147 3) 2 K) = i_Grid_writhe_l0 none t7_n t7_l t7_c t8 h0_0 h0_1 h0_2 h1 m sum t9 (fun sum_ => K (.exit 0) (buildS i_Grid_writhe_l0_o0 [.i sum_, .i h0_0, .f h0_1, .f h0_2, .l h1])) := by
  intro m
  induction m with
  | zero => intros; rfl
  | succ m ih =>
    intro sum t9
    rw [loopN_round]
    refine (i_Grid_writhe_l0_round N sum t7_n t7_l t7_c t8 t9 h0_0 h0_1 h0_2 h1 _ K).trans ?_
    simp only [ih]
    rfl
def E_i_Grid_writhe_l0 (α : Type) (N : Nat) : Env α := (A_i_Grid_writhe_l0 α N).addLoop2 147 3 (loopSum2 ((A_i_Grid_writhe_l0 α N).ann 147 3) 0 i_Grid_writhe_l0_p (fun l K => match l with
    | [.i sum, .n t7_n, .n t7_l, .n t7_c, .i t8, .i t9, .i h0_0, .f h0_1, .f h0_2, .l h1] => i_Grid_writhe_l0 none t7_n t7_l t7_c t8 h0_0 h0_1 h0_2 h1 N sum t9 (fun sum_ => K (.exit 0) (buildS i_Grid_writhe_l0_o0 [.i sum_, .i h0_0, .f h0_1, .f h0_2, .l h1]))
    | _ => none) ((A_i_Grid_writhe_l0 α N).ls 147 3))
theorem E_i_Grid_writhe_l0_ok {α : Type} (N : Nat) : EnvOk Try.prog (E_i_Grid_writhe_l0 α N) := (A_i_Grid_writhe_l0_ok N).addLoop2 Try.func147 (by kernel_rfl) (loopSum_ok prog_mixed prog_names (A_i_Grid_writhe_l0_ok N) Try.func147 (by kernel_rfl) (d := 1) (ro := 0) fun l K r h => by
  split at h
  · exact (i_Grid_writhe_l0_loop N _ _ _ _ _ _ _ _ K N _ _).trans h
  · cases h)
def i_Grid_writhe_a : SPat := ⟨[.agg [.vals [.int .i64], .ints .u8 8, .ints .u8 8]], []⟩
def i_Grid_writhe_r0 : SPat := ⟨[.int .i64], []⟩
theorem i_Grid_writhe_run {α : Type} (N : Nat) (g_0 : Int) (g_1 : NI) (g_2 : NI) (K : AV -> Heap -> Option α) :
    callK Try.prog (E_i_Grid_writhe_l0 α N) 1 147 0 (buildS i_Grid_writhe_a [.i g_0, .f g_1, .f g_2]).t (buildS i_Grid_writhe_a [.i g_0, .f g_1, .f g_2]).h K = i_Grid_writhe none N g_0 g_1 g_2 (fun r__ => retK (buildS i_Grid_writhe_r0 [.i r__]) K) := by kernel_rfl
def E_i_Grid_writhe (α : Type) (N : Nat) : Env α := (E_i_Grid_writhe_l0 α N).addFun 147 true 0 i_Grid_writhe_a (fun l K => match l with
    | [.i g_0, .f g_1, .f g_2] => i_Grid_writhe none N g_0 g_1 g_2 (fun r__ => retK (buildS i_Grid_writhe_r0 [.i r__]) K)
    | _ => none)
theorem E_i_Grid_writhe_ok {α : Type} (N : Nat) : EnvOk Try.prog (E_i_Grid_writhe α N) := (E_i_Grid_writhe_l0_ok N).addFun prog_mixed prog_names (d := 1) fun l K r h => by
  split at h
  · exact (i_Grid_writhe_run N _ _ _ K).trans h
  · cases h
def i_Grid_numbers_a : SPat := ⟨[.agg [.vals [.int .i64], .ints .u8 8, .ints .u8 8]], []⟩
def i_Grid_numbers_r0 : SPat := ⟨[.slice ⟨⟨0, 0⟩, 0, 0, 2⟩ 2 2 1 true], [[.vec .i64]]⟩
theorem i_Grid_numbers_run {α : Type} (N : Nat) (g_0 : Int) (g_1 : NI) (g_2 : NI) (K : AV -> Heap -> Option α) :
    callK Try.prog (E_i_Grid_writhe α N) 1 138 0 (buildS i_Grid_numbers_a [.i g_0, .f g_1, .f g_2]).t (buildS i_Grid_numbers_a [.i g_0, .f g_1, .f g_2]).h K = i_Grid_numbers none N g_0 g_1 g_2 (fun h0_ => retK (buildS i_Grid_numbers_r0 [.l h0_]) K) := by kernel_rfl
def E_i_Grid_numbers (α : Type) (N : Nat) : Env α := (E_i_Grid_writhe α N).addFun 138 true 0 i_Grid_numbers_a (fun l K => match l with
    | [.i g_0, .f g_1, .f g_2] => i_Grid_numbers none N g_0 g_1 g_2 (fun h0_ => retK (buildS i_Grid_numbers_r0 [.l h0_]) K)
    | _ => none)
theorem E_i_Grid_numbers_ok {α : Type} (N : Nat) : EnvOk Try.prog (E_i_Grid_numbers α N) := (E_i_Grid_writhe_ok N).addFun prog_mixed prog_names (d := 1) fun l K r h => by
  split at h
  · exact (i_Grid_numbers_run N _ _ _ K).trans h
  · cases h
def i_Grid_quarter_1_a : SPat := ⟨[.int .i64, .int .i64, .ptr ⟨⟨0, 0⟩, 0, 0, 1⟩], [[.vals [.int .i64], .ints .u8 8, .ints .u8 8]]⟩
def i_Grid_quarter_1_r0 : SPat := ⟨[.tuple [.int .i64, .int .i64]], [[.vals [.int .i64], .ints .u8 8, .ints .u8 8]]⟩
theorem i_Grid_quarter_1_run {α : Type} (N : Nat) (i : Int) (r_ : Int) (h0_0 : Int) (h0_1 : NI) (h0_2 : NI) (K : AV -> Heap -> Option α) :
    callK Try.prog (E_i_Grid_numbers α N) 1 194 1 (buildS i_Grid_quarter_1_a [.i i, .i r_, .i h0_0, .f h0_1, .f h0_2]).t (buildS i_Grid_quarter_1_a [.i i, .i r_, .i h0_0, .f h0_1, .f h0_2]).h K = i_Grid_quarter_1 none N i r_ h0_0 h0_1 h0_2 (fun r_0_ => retK (buildS i_Grid_quarter_1_r0 [.i r_0_, .i i, .i h0_0, .f h0_1, .f h0_2]) K) := by kernel_rfl
def E_i_Grid_quarter_1 (α : Type) (N : Nat) : Env α := (E_i_Grid_numbers α N).addFun 194 true 1 i_Grid_quarter_1_a (fun l K => match l with
    | [.i i, .i r_, .i h0_0, .f h0_1, .f h0_2] => i_Grid_quarter_1 none N i r_ h0_0 h0_1 h0_2 (fun r_0_ => retK (buildS i_Grid_quarter_1_r0 [.i r_0_, .i i, .i h0_0, .f h0_1, .f h0_2]) K)
    | _ => none)
theorem E_i_Grid_quarter_1_ok {α : Type} (N : Nat) : EnvOk Try.prog (E_i_Grid_quarter_1 α N) := (E_i_Grid_numbers_ok N).addFun prog_mixed prog_names (d := 1) fun l K r h => by
  split at h
  · exact (i_Grid_quarter_1_run N _ _ _ _ _ K).trans h
  · cases h
def i_Grid_led_l0_s7_p : SPat := ⟨[.undef, .func 194 [.ptr ⟨⟨0, 0⟩, 0, 0, 1⟩], .undef, .ptr ⟨⟨1, 0⟩, 0, 0, 1⟩, .undef, .undef, .ptr ⟨⟨2, 0⟩, 0, 0, 1⟩, .ptr ⟨⟨3, 0⟩, 0, 0, 1⟩, .ptr ⟨⟨3, 0⟩, 2, 0, 8⟩, .ptr ⟨⟨3, 0⟩, 1, 0, 8⟩, .undef, .undef, .undef, .undef, .undef, .undef, .undef, .undef, .undef, .undef, .undef, .undef, .int .i64, .int .i64] ++ List.replicate 38 .undef, [[.vals [.int .i64], .ints .u8 8, .ints .u8 8], [.vals [.int .i64], .ints .u8 8, .ints .u8 8], [.vals [.int .i64], .ints .u8 8, .ints .u8 8], [.vals [.int .i64], .ints .u8 8, .ints .u8 8]]⟩
def i_Grid_led_l0_s7_o0 : SPat := ⟨[.undef, .undef, .undef, .undef, .undef, .undef, .ptr ⟨⟨2, 0⟩, 0, 0, 1⟩, .ptr ⟨⟨3, 0⟩, 0, 0, 1⟩] ++ List.replicate 54 .undef, [[.vals [.int .i64], .ints .u8 8, .ints .u8 8], [.vals [.int .i64], .ints .u8 8, .ints .u8 8], [.vals [.int .i64], .ints .u8 8, .ints .u8 8], [.vals [.int .i64], .ints .u8 8, .ints .u8 8]]⟩
theorem i_Grid_led_l0_s7_round {α : Type} (N : Nat) (t22 : Int) (t23 : Int) (h0_0 : Int) (h0_1 : NI) (h0_2 : NI) (h1_0 : Int) (h1_1 : NI) (h1_2 : NI) (h2_0 : Int) (h2_1 : NI) (h2_2 : NI) (h3_0 : Int) (h3_1 : NI) (h3_2 : NI) (kn : St -> Option α) (K : AExit -> St -> Option α) :
    roundK Try.prog (E_i_Grid_quarter_1 α N) 1 1 162 Try.f162 6 4 (buildS i_Grid_led_l0_s7_p [.i t22, .i t23, .i h0_0, .f h0_1, .f h0_2, .i h1_0, .f h1_1, .f h1_2, .i h2_0, .f h2_1, .f h2_2, .i h3_0, .f h3_1, .f h3_2]) kn K = i_Grid_led_l0_s7_s none N t22 h0_0 h0_1 h0_2 h1_0 h1_1 h1_2 h2_0 h2_1 h2_2 h3_0 t23 h3_1 h3_2 (fun t23 h3_1 h3_2 => kn (buildS i_Grid_led_l0_s7_p [.i t22, .i t23, .i h0_0, .f h0_1, .f h0_2, .i h1_0, .f h1_1, .f h1_2, .i h2_0, .f h2_1, .f h2_2, .i h3_0, .f h3_1, .f h3_2])) (fun h3_1_ h3_2_ => K (.exit 0) (buildS i_Grid_led_l0_s7_o0 [.i h0_0, .f h0_1, .f h0_2, .i h1_0, .f h1_1, .f h1_2, .i h2_0, .f h2_1, .f h2_2, .i h3_0, .f h3_1_, .f h3_2_])) := by kernel_rfl
theorem i_Grid_led_l0_s7_loop {α : Type} (N : Nat) (t22 : Int) (h0_0 : Int) (h0_1 : NI) (h0_2 : NI) (h1_0 : Int) (h1_1 : NI) (h1_2 : NI) (h2_0 : Int) (h2_1 : NI) (h2_2 : NI) (h3_0 : Int) (K : AExit -> St -> Option α) : ∀ (m : Nat) (t23 : Int) (h3_1 : NI) (h3_2 : NI),
    loopN (trimSt ((E_i_Grid_quarter_1 α N).ann 162 6).head ((E_i_Grid_quarter_1 α N).ann 162 6).grow 4) (bodyK Try.prog (E_i_Grid_quarter_1 α N) 1 1 162 Try.f162 6) m (buildS i_Grid_led_l0_s7_p [.i t22, .i t23, .i h0_0, .f h0_1, .f h0_2, .i h1_0, .f h1_1, .f h1_2, .i h2_0, .f h2_1, .f h2_2, .i h3_0, .f h3_1, .f h3_2]) (leaveLoop ((E_i_Grid_quarter_1 α N).ann 162 6) 4 K) = i_Grid_led_l0_s7 none N t22 h0_0 h0_1 h0_2 h1_0 h1_1 h1_2 h2_0 h2_1 h2_2 h3_0 m t23 h3_1 h3_2 (fun h3_1_ h3_2_ => K (.exit 0) (buildS i_Grid_led_l0_s7_o0 [.i h0_0, .f h0_1, .f h0_2, .i h1_0, .f h1_1, .f h1_2, .i h2_0, .f h2_1, .f h2_2, .i h3_0, .f h3_1_, .f h3_2_])) := by
  intro m
  induction m with
  | zero => intros; rfl
  | succ m ih =>
    intro t23 h3_1 h3_2
    rw [loopN_round]
    refine (i_Grid_led_l0_s7_round N t22 t23 h0_0 h0_1 h0_2 h1_0 h1_1 h1_2 h2_0 h2_1 h2_2 h3_0 h3_1 h3_2 _ K).trans ?_
    simp only [ih]
    rfl
def E_i_Grid_led_l0_s7 (α : Type) (N : Nat) : Env α := (E_i_Grid_quarter_1 α N).addLoop2 162 6 (loopSum2 ((E_i_Grid_quarter_1 α N).ann 162 6) 1 i_Grid_led_l0_s7_p (fun l K => match l with
    | [.i t22, .i t23, .i h0_0, .f h0_1, .f h0_2, .i h1_0, .f h1_1, .f h1_2, .i h2_0, .f h2_1, .f h2_2, .i h3_0, .f h3_1, .f h3_2] => i_Grid_led_l0_s7 none N t22 h0_0 h0_1 h0_2 h1_0 h1_1 h1_2 h2_0 h2_1 h2_2 h3_0 N t23 h3_1 h3_2 (fun h3_1_ h3_2_ => K (.exit 0) (buildS i_Grid_led_l0_s7_o0 [.i h0_0, .f h0_1, .f h0_2, .i h1_0, .f h1_1, .f h1_2, .i h2_0, .f h2_1, .f h2_2, .i h3_0, .f h3_1_, .f h3_2_]))
    | _ => none) ((E_i_Grid_quarter_1 α N).ls 162 6))
theorem E_i_Grid_led_l0_s7_ok {α : Type} (N : Nat) : EnvOk Try.prog (E_i_Grid_led_l0_s7 α N) := (E_i_Grid_quarter_1_ok N).addLoop2 Try.func162 (by kernel_rfl) (loopSum_ok prog_mixed prog_names (E_i_Grid_quarter_1_ok N) Try.func162 (by kernel_rfl) (d := 1) (ro := 1) fun l K r h => by
  split at h
  · exact (i_Grid_led_l0_s7_loop N _ _ _ _ _ _ _ _ _ _ _ K N _ _ _).trans h
  · cases h)
def i_Grid_led_l0_s8_p : SPat := ⟨[.undef, .func 194 [.ptr ⟨⟨0, 0⟩, 0, 0, 1⟩], .undef, .ptr ⟨⟨1, 0⟩, 0, 0, 1⟩, .undef, .undef, .ptr ⟨⟨2, 0⟩, 0, 0, 1⟩, .ptr ⟨⟨3, 0⟩, 0, 0, 1⟩, .ptr ⟨⟨3, 0⟩, 1, 0, 8⟩, .ptr ⟨⟨3, 0⟩, 2, 0, 8⟩, .undef, .undef, .undef, .undef, .undef, .undef, .undef, .undef, .undef, .undef, .undef, .undef, .int .i64, .int .i64] ++ List.replicate 38 .undef, [[.vals [.int .i64], .ints .u8 8, .ints .u8 8], [.vals [.int .i64], .ints .u8 8, .ints .u8 8], [.vals [.int .i64], .ints .u8 8, .ints .u8 8], [.vals [.int .i64], .ints .u8 8, .ints .u8 8]]⟩
def i_Grid_led_l0_s8_o0 : SPat := ⟨[.undef, .undef, .undef, .undef, .undef, .undef, .ptr ⟨⟨2, 0⟩, 0, 0, 1⟩, .ptr ⟨⟨3, 0⟩, 0, 0, 1⟩] ++ List.replicate 54 .undef, [[.vals [.int .i64], .ints .u8 8, .ints .u8 8], [.vals [.int .i64], .ints .u8 8, .ints .u8 8], [.vals [.int .i64], .ints .u8 8, .ints .u8 8], [.vals [.int .i64], .ints .u8 8, .ints .u8 8]]⟩
theorem i_Grid_led_l0_s8_round {α : Type} (N : Nat) (t22 : Int) (t23 : Int) (h0_0 : Int) (h0_1 : NI) (h0_2 : NI) (h1_0 : Int) (h1_1 : NI) (h1_2 : NI) (h2_0 : Int) (h2_1 : NI) (h2_2 : NI) (h3_0 : Int) (h3_1 : NI) (h3_2 : NI) (kn : St -> Option α) (K : AExit -> St -> Option α) :
    roundK Try.prog (E_i_Grid_led_l0_s7 α N) 1 1 162 Try.f162 6 4 (buildS i_Grid_led_l0_s8_p [.i t22, .i t23, .i h0_0, .f h0_1, .f h0_2, .i h1_0, .f h1_1, .f h1_2, .i h2_0, .f h2_1, .f h2_2, .i h3_0, .f h3_1, .f h3_2]) kn K = i_Grid_led_l0_s8_s none N t22 h0_0 h0_1 h0_2 h1_0 h1_1 h1_2 h2_0 h2_1 h2_2 h3_0 t23 h3_1 h3_2 (fun t23 h3_1 h3_2 => kn (buildS i_Grid_led_l0_s8_p [.i t22, .i t23, .i h0_0, .f h0_1, .f h0_2, .i h1_0, .f h1_1, .f h1_2, .i h2_0, .f h2_1, .f h2_2, .i h3_0, .f h3_1, .f h3_2])) (fun h3_1_ h3_2_ => K (.exit 0) (buildS i_Grid_led_l0_s8_o0 [.i h0_0, .f h0_1, .f h0_2, .i h1_0, .f h1_1, .f h1_2, .i h2_0, .f h2_1, .f h2_2, .i h3_0, .f h3_1_, .f h3_2_])) := by kernel_rfl
theorem i_Grid_led_l0_s8_loop {α : Type} (N : Nat) (t22 : Int) (h0_0 : Int) (h0_1 : NI) (h0_2 : NI) (h1_0 : Int) (h1_1 : NI) (h1_2 : NI) (h2_0 : Int) (h2_1 : NI) (h2_2 : NI) (h3_0 : Int) (K : AExit -> St -> Option α) : ∀ (m : Nat) (t23 : Int) (h3_1 : NI) (h3_2 : NI),
    loopN (trimSt ((E_i_Grid_led_l0_s7 α N).ann 162 6).head ((E_i_Grid_led_l0_s7 α N).ann 162 6).grow 4) (bodyK Try.prog (E_i_Grid_led_l0_s7 α N) 1 1 162 Try.f162 6) m (buildS i_Grid_led_l0_s8_p [.i t22, .i t23, .i h0_0, .f h0_1, .f h0_2, .i h1_0, .f h1_1, .f h1_2, .i h2_0, .f h2_1, .f h2_2, .i h3_0, .f h3_1, .f h3_2]) (leaveLoop ((E_i_Grid_led_l0_s7 α N).ann 162 6) 4 K) = i_Grid_led_l0_s8 none N t22 h0_0 h0_1 h0_2 h1_0 h1_1 h1_2 h2_0 h2_1 h2_2 h3_0 m t23 h3_1 h3_2 (fun h3_1_ h3_2_ => K (.exit 0) (buildS i_Grid_led_l0_s8_o0 [.i h0_0, .f h0_1, .f h0_2, .i h1_0, .f h1_1, .f h1_2, .i h2_0, .f h2_1, .f h2_2, .i h3_0, .f h3_1_, .f h3_2_])) := by
  intro m
  induction m with
  | zero => intros; rfl
  | succ m ih =>
    intro t23 h3_1 h3_2
    rw [loopN_round]
    refine (i_Grid_led_l0_s8_round N t22 t23 h0_0 h0_1 h0_2 h1_0 h1_1 h1_2 h2_0 h2_1 h2_2 h3_0 h3_1 h3_2 _ K).trans ?_
    simp only [ih]
    rfl
def E_i_Grid_led_l0_s8 (α : Type) (N : Nat) : Env α := (E_i_Grid_led_l0_s7 α N).addLoop2 162 6 (loopSum2 ((E_i_Grid_led_l0_s7 α N).ann 162 6) 1 i_Grid_led_l0_s8_p (fun l K => match l with
    | [.i t22, .i t23, .i h0_0, .f h0_1, .f h0_2, .i h1_0, .f h1_1, .f h1_2, .i h2_0, .f h2_1, .f h2_2, .i h3_0, .f h3_1, .f h3_2] => i_Grid_led_l0_s8 none N t22 h0_0 h0_1 h0_2 h1_0 h1_1 h1_2 h2_0 h2_1 h2_2 h3_0 N t23 h3_1 h3_2 (fun h3_1_ h3_2_ => K (.exit 0) (buildS i_Grid_led_l0_s8_o0 [.i h0_0, .f h0_1, .f h0_2, .i h1_0, .f h1_1, .f h1_2, .i h2_0, .f h2_1, .f h2_2, .i h3_0, .f h3_1_, .f h3_2_]))
    | _ => none) ((E_i_Grid_led_l0_s7 α N).ls 162 6))
theorem E_i_Grid_led_l0_s8_ok {α : Type} (N : Nat) : EnvOk Try.prog (E_i_Grid_led_l0_s8 α N) := (E_i_Grid_led_l0_s7_ok N).addLoop2 Try.func162 (by kernel_rfl) (loopSum_ok prog_mixed prog_names (E_i_Grid_led_l0_s7_ok N) Try.func162 (by kernel_rfl) (d := 1) (ro := 1) fun l K r h => by
  split at h
  · exact (i_Grid_led_l0_s8_loop N _ _ _ _ _ _ _ _ _ _ _ K N _ _ _).trans h
  · cases h)
def i_Grid_led_s4_a : SPat := ⟨[.agg [.vals [.int .i64], .ints .u8 8, .ints .u8 8], .func 194 [.ptr ⟨⟨0, 0⟩, 0, 0, 1⟩], .bool], [[.vals [.int .i64], .ints .u8 8, .ints .u8 8]]⟩
def i_Grid_led_s4_r0 : SPat := ⟨[.agg [.vals [.int .i64], .ints .u8 8, .ints .u8 8]], [[.vals [.int .i64], .ints .u8 8, .ints .u8 8]]⟩
theorem i_Grid_led_s4_run {α : Type} (N : Nat) (g_0 : Int) (g_1 : NI) (g_2 : NI) (exchanged : Bool) (h0_0 : Int) (h0_1 : NI) (h0_2 : NI) (K : AV -> Heap -> Option α) :
    callK Try.prog (E_i_Grid_led_l0_s8 α N) 1 162 1 (buildS i_Grid_led_s4_a [.i g_0, .f g_1, .f g_2, .b exchanged, .i h0_0, .f h0_1, .f h0_2]).t (buildS i_Grid_led_s4_a [.i g_0, .f g_1, .f g_2, .b exchanged, .i h0_0, .f h0_1, .f h0_2]).h K = i_Grid_led_s4 none N g_0 g_1 g_2 exchanged h0_0 h0_1 h0_2 (fun r_1_ r_2_ => retK (buildS i_Grid_led_s4_r0 [.i g_0, .f r_1_, .f r_2_, .i h0_0, .f h0_1, .f h0_2]) K) := by kernel_rfl
def E_i_Grid_led_s4 (α : Type) (N : Nat) : Env α := (E_i_Grid_led_l0_s8 α N).addFun 162 true 1 i_Grid_led_s4_a (fun l K => match l with
    | [.i g_0, .f g_1, .f g_2, .b exchanged, .i h0_0, .f h0_1, .f h0_2] => i_Grid_led_s4 none N g_0 g_1 g_2 exchanged h0_0 h0_1 h0_2 (fun r_1_ r_2_ => retK (buildS i_Grid_led_s4_r0 [.i g_0, .f r_1_, .f r_2_, .i h0_0, .f h0_1, .f h0_2]) K)
    | _ => none)
theorem E_i_Grid_led_s4_ok {α : Type} (N : Nat) : EnvOk Try.prog (E_i_Grid_led_s4 α N) := (E_i_Grid_led_l0_s8_ok N).addFun prog_mixed prog_names (d := 1) fun l K r h => by
  split at h
  · exact (i_Grid_led_s4_run N _ _ _ _ _ _ _ K).trans h
  · cases h
def i_Grid_quarter_a : SPat := ⟨[.agg [.vals [.int .i64], .ints .u8 8, .ints .u8 8]], []⟩
def i_Grid_quarter_r0 : SPat := ⟨[.agg [.vals [.int .i64], .ints .u8 8, .ints .u8 8]], []⟩
theorem i_Grid_quarter_run {α : Type} (N : Nat) (g_0 : Int) (g_1 : NI) (g_2 : NI) (K : AV -> Heap -> Option α) :
    callK Try.prog (E_i_Grid_led_s4 α N) 1 112 0 (buildS i_Grid_quarter_a [.i g_0, .f g_1, .f g_2]).t (buildS i_Grid_quarter_a [.i g_0, .f g_1, .f g_2]).h K = i_Grid_quarter none N g_0 g_1 g_2 (fun r_1_ r_2_ => retK (buildS i_Grid_quarter_r0 [.i g_0, .f r_1_, .f r_2_]) K) := by kernel_rfl
def E_i_Grid_quarter (α : Type) (N : Nat) : Env α := (E_i_Grid_led_s4 α N).addFun 112 true 0 i_Grid_quarter_a (fun l K => match l with
    | [.i g_0, .f g_1, .f g_2] => i_Grid_quarter none N g_0 g_1 g_2 (fun r_1_ r_2_ => retK (buildS i_Grid_quarter_r0 [.i g_0, .f r_1_, .f r_2_]) K)
    | _ => none)
theorem E_i_Grid_quarter_ok {α : Type} (N : Nat) : EnvOk Try.prog (E_i_Grid_quarter α N) := (E_i_Grid_led_s4_ok N).addFun prog_mixed prog_names (d := 1) fun l K r h => by
  split at h
  · exact (i_Grid_quarter_run N _ _ _ K).trans h
  · cases h
def i_TurnNumbers_1_l0_p : SPat := ⟨[.undef, .ptr ⟨⟨0, 0⟩, 0, 0, 1⟩, .undef, .sliceV 2 0 0 1 false, .undef, .int .i64] ++ List.replicate 10 .undef, [[.vals [.int .i64], .ints .u8 8, .ints .u8 8], [.pool .i64], [.hdr 1]]⟩
def i_TurnNumbers_1_l0_o0 : SPat := ⟨[.undef, .undef, .undef, .sliceV 2 0 0 1 false] ++ List.replicate 12 .undef, [[.vals [.int .i64], .ints .u8 8, .ints .u8 8], [.pool .i64], [.hdr 1]]⟩
theorem i_TurnNumbers_1_l0_round {α : Type} (N : Nat) (out_n : Nat) (out_l : Nat) (out_c : Nat) (t5 : Int) (h0_0 : Int) (h0_1 : NI) (h0_2 : NI) (h1 : List (List Int)) (h2 : List (Nat × Nat)) (kn : St -> Option α) (K : AExit -> St -> Option α) :
    roundK Try.prog (E_i_Grid_quarter α N) 1 0 171 Try.f171 3 3 (buildS i_TurnNumbers_1_l0_p [.n out_n, .n out_l, .n out_c, .i t5, .i h0_0, .f h0_1, .f h0_2, .r h1, .p h2]) kn K = i_TurnNumbers_1_l0_s none N h0_0 out_n out_l out_c t5 h0_1 h0_2 h1 h2 (fun out_n out_l out_c t5 h0_1 h0_2 h1 h2 => kn (buildS i_TurnNumbers_1_l0_p [.n out_n, .n out_l, .n out_c, .i t5, .i h0_0, .f h0_1, .f h0_2, .r h1, .p h2])) (fun out_n_ out_l_ out_c_ h0_1_ h0_2_ h1_ h2_ => K (.exit 0) (buildS i_TurnNumbers_1_l0_o0 [.n out_n_, .n out_l_, .n out_c_, .i h0_0, .f h0_1_, .f h0_2_, .r h1_, .p h2_])) := by kernel_rfl
theorem i_TurnNumbers_1_l0_loop {α : Type} (N : Nat) (h0_0 : Int) (K : AExit -> St -> Option α) : ∀ (m : Nat) (out_n : Nat) (out_l : Nat) (out_c : Nat) (t5 : Int) (h0_1 : NI) (h0_2 : NI) (h1 : List (List Int)) (h2 : List (Nat × Nat)),
    loopN (trimSt ((E_i_Grid_quarter α N).ann 171 3).head ((E_i_Grid_quarter α N).ann 171 3).grow 3) (bodyK Try.prog (E_i_Grid_quarter α N) 1 0 171 Try.f171 3) m (buildS i_TurnNumbers_1_l0_p [.n out_n, .n out_l, .n out_c, .i t5, .i h0_0, .f h0_1, .f h0_2, .r h1, .p h2]) (leaveLoop ((E_i_Grid_quarter α N).ann 171 3) 3 K) = i_TurnNumbers_1_l0 none N h0_0 m out_n out_l out_c t5 h0_1 h0_2 h1 h2 (fun out_n_ out_l_ out_c_ h0_1_ h0_2_ h1_ h2_ => K (.exit 0) (buildS i_TurnNumbers_1_l0_o0 [.n out_n_, .n out_l_, .n out_c_, .i h0_0, .f h0_1_, .f h0_2_, .r h1_, .p h2_])) := by
  intro m
  induction m with
  | zero => intros; rfl
  | succ m ih =>
    intro out_n out_l out_c t5 h0_1 h0_2 h1 h2
    rw [loopN_round]
    refine (i_TurnNumbers_1_l0_round N out_n out_l out_c t5 h0_0 h0_1 h0_2 h1 h2 _ K).trans ?_
    simp only [ih]
    rfl
def E_i_TurnNumbers_1_l0 (α : Type) (N : Nat) : Env α := (E_i_Grid_quarter α N).addLoop2 171 3 (loopSum2 ((E_i_Grid_quarter α N).ann 171 3) 0 i_TurnNumbers_1_l0_p (fun l K => match l with
    | [.n out_n, .n out_l, .n out_c, .i t5, .i h0_0, .f h0_1, .f h0_2, .r h1, .p h2] => i_TurnNumbers_1_l0 none N h0_0 N out_n out_l out_c t5 h0_1 h0_2 h1 h2 (fun out_n_ out_l_ out_c_ h0_1_ h0_2_ h1_ h2_ => K (.exit 0) (buildS i_TurnNumbers_1_l0_o0 [.n out_n_, .n out_l_, .n out_c_, .i h0_0, .f h0_1_, .f h0_2_, .r h1_, .p h2_]))
    | _ => none) ((E_i_Grid_quarter α N).ls 171 3))
theorem E_i_TurnNumbers_1_l0_ok {α : Type} (N : Nat) : EnvOk Try.prog (E_i_TurnNumbers_1_l0 α N) := (E_i_Grid_quarter_ok N).addLoop2 Try.func171 (by kernel_rfl) (loopSum_ok prog_mixed prog_names (E_i_Grid_quarter_ok N) Try.func171 (by kernel_rfl) (d := 1) (ro := 0) fun l K r h => by
  split at h
  · exact (i_TurnNumbers_1_l0_loop N _ K N _ _ _ _ _ _ _ _).trans h
  · cases h)
def i_TurnNumbers_1_a : SPat := ⟨[.agg [.vals [.int .i64], .ints .u8 8, .ints .u8 8]], []⟩
def i_TurnNumbers_1_r0 : SPat := ⟨[.sliceV 0 0 0 1 false], [[.hdr 1], [.pool .i64]]⟩
theorem i_TurnNumbers_1_run {α : Type} (N : Nat) (g_0 : Int) (g_1 : NI) (g_2 : NI) (K : AV -> Heap -> Option α) :
    callK Try.prog (E_i_TurnNumbers_1_l0 α N) 1 171 0 (buildS i_TurnNumbers_1_a [.i g_0, .f g_1, .f g_2]).t (buildS i_TurnNumbers_1_a [.i g_0, .f g_1, .f g_2]).h K = i_TurnNumbers_1 none N g_0 g_1 g_2 (fun r_n_ r_l_ r_c_ h0_ h1_ => retK (buildS i_TurnNumbers_1_r0 [.n r_n_, .n r_l_, .n r_c_, .p h0_, .r h1_]) K) := by kernel_rfl
def E_i_TurnNumbers_1 (α : Type) (N : Nat) : Env α := (E_i_TurnNumbers_1_l0 α N).addFun 171 true 0 i_TurnNumbers_1_a (fun l K => match l with
    | [.i g_0, .f g_1, .f g_2] => i_TurnNumbers_1 none N g_0 g_1 g_2 (fun r_n_ r_l_ r_c_ h0_ h1_ => retK (buildS i_TurnNumbers_1_r0 [.n r_n_, .n r_l_, .n r_c_, .p h0_, .r h1_]) K)
    | _ => none)
theorem E_i_TurnNumbers_1_ok {α : Type} (N : Nat) : EnvOk Try.prog (E_i_TurnNumbers_1 α N) := (E_i_TurnNumbers_1_l0_ok N).addFun prog_mixed prog_names (d := 1) fun l K r h => by
  split at h
  · exact (i_TurnNumbers_1_run N _ _ _ K).trans h
  · cases h
def i_whole_int64_s4_a : SPat := ⟨[.agg [.vals [.int .i64], .ints .u8 8, .ints .u8 8], .func 171 []], []⟩
def i_whole_int64_s4_r0 : SPat := ⟨[.tuple [.nils, .int .i64]], []⟩
def i_whole_int64_s4_r1 : SPat := ⟨[.tuple [.sliceV 0 0 0 1 false, .int .i64]], [[.hdr 1], [.pool .i64]]⟩
theorem i_whole_int64_s4_run {α : Type} (N : Nat) (g_0 : Int) (g_1 : NI) (g_2 : NI) (K : AV -> Heap -> Option α) :
    callK Try.prog (E_i_TurnNumbers_1 α N) 1 93 0 (buildS i_whole_int64_s4_a [.i g_0, .f g_1, .f g_2]).t (buildS i_whole_int64_s4_a [.i g_0, .f g_1, .f g_2]).h K = i_whole_int64_s4 none N g_0 g_1 g_2 (fun r_1_ => retK (buildS i_whole_int64_s4_r0 [.i r_1_]) K) (fun r_0_n_ r_0_l_ r_0_c_ r_1_ h0_ h1_ => retK (buildS i_whole_int64_s4_r1 [.n r_0_n_, .n r_0_l_, .n r_0_c_, .i r_1_, .p h0_, .r h1_]) K) := by kernel_rfl
def E_i_whole_int64_s4 (α : Type) (N : Nat) : Env α := (E_i_TurnNumbers_1 α N).addFun 93 true 0 i_whole_int64_s4_a (fun l K => match l with
    | [.i g_0, .f g_1, .f g_2] => i_whole_int64_s4 none N g_0 g_1 g_2 (fun r_1_ => retK (buildS i_whole_int64_s4_r0 [.i r_1_]) K) (fun r_0_n_ r_0_l_ r_0_c_ r_1_ h0_ h1_ => retK (buildS i_whole_int64_s4_r1 [.n r_0_n_, .n r_0_l_, .n r_0_c_, .i r_1_, .p h0_, .r h1_]) K)
    | _ => none)
theorem E_i_whole_int64_s4_ok {α : Type} (N : Nat) : EnvOk Try.prog (E_i_whole_int64_s4 α N) := (E_i_TurnNumbers_1_ok N).addFun prog_mixed prog_names (d := 1) fun l K r h => by
  split at h
  · exact (i_whole_int64_s4_run N _ _ _ K).trans h
  · cases h
def i_TurnNumbers_a : SPat := ⟨[.agg [.vals [.int .i64], .ints .u8 8, .ints .u8 8]], []⟩
def i_TurnNumbers_r0 : SPat := ⟨[.tuple [.nils, .int .i64]], []⟩
def i_TurnNumbers_r1 : SPat := ⟨[.tuple [.sliceV 0 0 0 1 false, .int .i64]], [[.hdr 1], [.pool .i64]]⟩
theorem i_TurnNumbers_run {α : Type} (N : Nat) (g_0 : Int) (g_1 : NI) (g_2 : NI) (K : AV -> Heap -> Option α) :
    callK Try.prog (E_i_whole_int64_s4 α N) 1 73 0 (buildS i_TurnNumbers_a [.i g_0, .f g_1, .f g_2]).t (buildS i_TurnNumbers_a [.i g_0, .f g_1, .f g_2]).h K = i_TurnNumbers none N g_0 g_1 g_2 (fun r_1_ => retK (buildS i_TurnNumbers_r0 [.i r_1_]) K) (fun r_0_n_ r_0_l_ r_0_c_ r_1_ h0_ h1_ => retK (buildS i_TurnNumbers_r1 [.n r_0_n_, .n r_0_l_, .n r_0_c_, .i r_1_, .p h0_, .r h1_]) K) := by kernel_rfl
def E_i_TurnNumbers (α : Type) (N : Nat) : Env α := (E_i_whole_int64_s4 α N).addFun 73 true 0 i_TurnNumbers_a (fun l K => match l with
    | [.i g_0, .f g_1, .f g_2] => i_TurnNumbers none N g_0 g_1 g_2 (fun r_1_ => retK (buildS i_TurnNumbers_r0 [.i r_1_]) K) (fun r_0_n_ r_0_l_ r_0_c_ r_1_ h0_ h1_ => retK (buildS i_TurnNumbers_r1 [.n r_0_n_, .n r_0_l_, .n r_0_c_, .i r_1_, .p h0_, .r h1_]) K)
    | _ => none)
theorem E_i_TurnNumbers_ok {α : Type} (N : Nat) : EnvOk Try.prog (E_i_TurnNumbers α N) := (E_i_whole_int64_s4_ok N).addFun prog_mixed prog_names (d := 1) fun l K r h => by
  split at h
  · exact (i_TurnNumbers_run N _ _ _ K).trans h
  · cases h
def A_s_TurnNumbers_l0 (α : Type) (N : Nat) : Env α := (E_i_TurnNumbers α N).addAnn 74 5 { head := [1, 4, 5], grow := [4], out := [4], ret := [2, 3] }
theorem A_s_TurnNumbers_l0_ok {α : Type} (N : Nat) : EnvOk Try.prog (A_s_TurnNumbers_l0 α N) := (E_i_TurnNumbers_ok N).addAnn
def A_s_l03Writhe_l0 (α : Type) (N : Nat) : Env α := (A_s_TurnNumbers_l0 α N).addAnn 156 3 { head := [3, 4, 5], grow := [], out := [4], ret := [2] }
theorem A_s_l03Writhe_l0_ok {α : Type} (N : Nat) : EnvOk Try.prog (A_s_l03Writhe_l0 α N) := (A_s_TurnNumbers_l0_ok N).addAnn
def s_l03Writhe_l0_p : SPat := ⟨[.undef, .undef, .undef, .sliceV 1 0 0 3 false, .int .i64, .int .i64] ++ List.replicate 16 .undef, [[.vals [.int .i64], .ints .u8 8, .ints .u8 8], [.vec .i64]]⟩
def s_l03Writhe_l0_o0 : SPat := ⟨[.undef, .undef, .undef, .undef, .int .i64] ++ List.replicate 17 .undef, [[.vals [.int .i64], .ints .u8 8, .ints .u8 8], [.vec .i64]]⟩
theorem s_l03Writhe_l0_round {α : Type} (N : Nat) (list_n : Nat) (list_l : Nat) (list_c : Nat) (out : Int) (i : Int) (h0_0 : Int) (h0_1 : NI) (h0_2 : NI) (h1 : List Int) (kn : St -> Option α) (K : AExit -> St -> Option α) :
    roundK Try.prog (A_s_l03Writhe_l0 α N) 1 0 156 Try.f156 3 2 (buildS s_l03Writhe_l0_p [.n list_n, .n list_l, .n list_c, .i out, .i i, .i h0_0, .f h0_1, .f h0_2, .l h1]) kn K = s_l03Writhe_l0_s none list_n list_l list_c h0_0 h0_1 h0_2 h1 out i (fun out i => kn (buildS s_l03Writhe_l0_p [.n list_n, .n list_l, .n list_c, .i out, .i i, .i h0_0, .f h0_1, .f h0_2, .l h1])) (fun out_ => K (.exit 0) (buildS s_l03Writhe_l0_o0 [.i out_, .i h0_0, .f h0_1, .f h0_2, .l h1])) := by kernel_rfl
theorem s_l03Writhe_l0_loop {α : Type} (N : Nat) (list_n : Nat) (list_l : Nat) (list_c : Nat) (h0_0 : Int) (h0_1 : NI) (h0_2 : NI) (h1 : List Int) (K : AExit -> St -> Option α) : ∀ (m : Nat) (out : Int) (i : Int),
    loopN (trimSt ((A_s_l03Writhe_l0 α N).ann 156 3).head ((A_s_l03Writhe_l0 α N).ann 156 3).grow 2) (bodyK Try.prog (A_s_l03Writhe_l0 α N) 1 0 156 Try.f156 3) m (buildS s_l03Writhe_l0_p [.n list_n, .n list_l, .n list_c, .i out, .i i, .i h0_0, .f h0_1, .f h0_2, .l h1]) (leaveLoop ((A_s_l03Writhe_l0 α N).ann 156 3) 2 K) = s_l03Writhe_l0 none list_n list_l list_c h0_0 h0_1 h0_2 h1 m out i (fun out_ => K (.exit 0) (buildS s_l03Writhe_l0_o0 [.i out_, .i h0_0, .f h0_1, .f h0_2, .l h1])) := by
  intro m
  induction m with
  | zero => intros; rfl
  | succ m ih =>
    intro out i
    rw [loopN_round]
    refine (s_l03Writhe_l0_round N list_n list_l list_c out i h0_0 h0_1 h0_2 h1 _ K).trans ?_
    simp only [ih]
    rfl
def E_s_l03Writhe_l0 (α : Type) (N : Nat) : Env α := (A_s_l03Writhe_l0 α N).addLoop2 156 3 (loopSum2 ((A_s_l03Writhe_l0 α N).ann 156 3) 0 s_l03Writhe_l0_p (fun l K => match l with
    | [.n list_n, .n list_l, .n list_c, .i out, .i i, .i h0_0, .f h0_1, .f h0_2, .l h1] => s_l03Writhe_l0 none list_n list_l list_c h0_0 h0_1 h0_2 h1 N out i (fun out_ => K (.exit 0) (buildS s_l03Writhe_l0_o0 [.i out_, .i h0_0, .f h0_1, .f h0_2, .l h1]))
    | _ => none) ((A_s_l03Writhe_l0 α N).ls 156 3))
theorem E_s_l03Writhe_l0_ok {α : Type} (N : Nat) : EnvOk Try.prog (E_s_l03Writhe_l0 α N) := (A_s_l03Writhe_l0_ok N).addLoop2 Try.func156 (by kernel_rfl) (loopSum_ok prog_mixed prog_names (A_s_l03Writhe_l0_ok N) Try.func156 (by kernel_rfl) (d := 1) (ro := 0) fun l K r h => by
  split at h
  · exact (s_l03Writhe_l0_loop N _ _ _ _ _ _ _ K N _ _).trans h
  · cases h)
def s_l03Writhe_a : SPat := ⟨[.agg [.vals [.int .i64], .ints .u8 8, .ints .u8 8]], []⟩
def s_l03Writhe_r0 : SPat := ⟨[.int .i64], []⟩
theorem s_l03Writhe_run {α : Type} (N : Nat) (g_0 : Int) (g_1 : NI) (g_2 : NI) (K : AV -> Heap -> Option α) :
    callK Try.prog (E_s_l03Writhe_l0 α N) 1 156 0 (buildS s_l03Writhe_a [.i g_0, .f g_1, .f g_2]).t (buildS s_l03Writhe_a [.i g_0, .f g_1, .f g_2]).h K = s_l03Writhe none N g_0 g_1 g_2 (fun r__ => retK (buildS s_l03Writhe_r0 [.i r__]) K) := by kernel_rfl
def E_s_l03Writhe (α : Type) (N : Nat) : Env α := (E_s_l03Writhe_l0 α N).addFun 156 true 0 s_l03Writhe_a (fun l K => match l with
    | [.i g_0, .f g_1, .f g_2] => s_l03Writhe none N g_0 g_1 g_2 (fun r__ => retK (buildS s_l03Writhe_r0 [.i r__]) K)
    | _ => none)
theorem E_s_l03Writhe_ok {α : Type} (N : Nat) : EnvOk Try.prog (E_s_l03Writhe α N) := (E_s_l03Writhe_l0_ok N).addFun prog_mixed prog_names (d := 1) fun l K r h => by
  split at h
  · exact (s_l03Writhe_run N _ _ _ K).trans h
  · cases h
def s_l07Numbers_a : SPat := ⟨[.agg [.vals [.int .i64], .ints .u8 8, .ints .u8 8]], []⟩
def s_l07Numbers_r0 : SPat := ⟨[.tuple [.int .i64, .int .i64]], []⟩
theorem s_l07Numbers_run {α : Type} (N : Nat) (g_0 : Int) (g_1 : NI) (g_2 : NI) (K : AV -> Heap -> Option α) :
    callK Try.prog (E_s_l03Writhe α N) 1 139 0 (buildS s_l07Numbers_a [.i g_0, .f g_1, .f g_2]).t (buildS s_l07Numbers_a [.i g_0, .f g_1, .f g_2]).h K = s_l07Numbers none N g_0 g_1 g_2 (fun r_0_ r_1_ => retK (buildS s_l07Numbers_r0 [.i r_0_, .i r_1_]) K) := by kernel_rfl
def E_s_l07Numbers (α : Type) (N : Nat) : Env α := (E_s_l03Writhe α N).addFun 139 true 0 s_l07Numbers_a (fun l K => match l with
    | [.i g_0, .f g_1, .f g_2] => s_l07Numbers none N g_0 g_1 g_2 (fun r_0_ r_1_ => retK (buildS s_l07Numbers_r0 [.i r_0_, .i r_1_]) K)
    | _ => none)
theorem E_s_l07Numbers_ok {α : Type} (N : Nat) : EnvOk Try.prog (E_s_l07Numbers α N) := (E_s_l03Writhe_ok N).addFun prog_mixed prog_names (d := 1) fun l K r h => by
  split at h
  · exact (s_l07Numbers_run N _ _ _ K).trans h
  · cases h
def A_s_QuarterTurn_l0 (α : Type) (N : Nat) : Env α := (E_s_l07Numbers α N).addAnn 172 5 { head := [1, 2, 4, 5, 6], grow := [], out := [2, 5], ret := [2, 3] }
theorem A_s_QuarterTurn_l0_ok {α : Type} (N : Nat) : EnvOk Try.prog (A_s_QuarterTurn_l0 α N) := (E_s_l07Numbers_ok N).addAnn
def s_QuarterTurn_l0_p : SPat := ⟨[.undef, .ptr ⟨⟨0, 0⟩, 0, 0, 1⟩, .ptr ⟨⟨1, 0⟩, 0, 0, 1⟩, .undef, .int .i64, .ptr ⟨⟨2, 0⟩, 0, 0, 1⟩, .int .i64] ++ List.replicate 39 .undef, [[.vals [.int .i64], .ints .u8 8, .ints .u8 8], [.vals [.int .i64], .ints .u8 8, .ints .u8 8], [.vals [.int .i64], .ints .u8 8, .ints .u8 8]]⟩
def s_QuarterTurn_l0_o0 : SPat := ⟨[.undef, .undef, .ptr ⟨⟨1, 0⟩, 0, 0, 1⟩, .undef, .undef, .ptr ⟨⟨2, 0⟩, 0, 0, 1⟩] ++ List.replicate 40 .undef, [[.vals [.int .i64], .ints .u8 8, .ints .u8 8], [.vals [.int .i64], .ints .u8 8, .ints .u8 8], [.vals [.int .i64], .ints .u8 8, .ints .u8 8]]⟩
theorem s_QuarterTurn_l0_round {α : Type} (N : Nat) (n : Int) (i : Int) (h0_0 : Int) (h0_1 : NI) (h0_2 : NI) (h1_0 : Int) (h1_1 : NI) (h1_2 : NI) (h2_0 : Int) (h2_1 : NI) (h2_2 : NI) (kn : St -> Option α) (K : AExit -> St -> Option α) :
    roundK Try.prog (A_s_QuarterTurn_l0 α N) 1 0 172 Try.f172 5 3 (buildS s_QuarterTurn_l0_p [.i n, .i i, .i h0_0, .f h0_1, .f h0_2, .i h1_0, .f h1_1, .f h1_2, .i h2_0, .f h2_1, .f h2_2]) kn K = s_QuarterTurn_l0_s none n h0_0 h0_1 h0_2 h1_0 h1_1 h1_2 h2_0 i h2_1 h2_2 (fun i h2_1 h2_2 => kn (buildS s_QuarterTurn_l0_p [.i n, .i i, .i h0_0, .f h0_1, .f h0_2, .i h1_0, .f h1_1, .f h1_2, .i h2_0, .f h2_1, .f h2_2])) (fun h2_1_ h2_2_ => K (.exit 0) (buildS s_QuarterTurn_l0_o0 [.i h0_0, .f h0_1, .f h0_2, .i h1_0, .f h1_1, .f h1_2, .i h2_0, .f h2_1_, .f h2_2_])) := by kernel_rfl
theorem s_QuarterTurn_l0_loop {α : Type} (N : Nat) (n : Int) (h0_0 : Int) (h0_1 : NI) (h0_2 : NI) (h1_0 : Int) (h1_1 : NI) (h1_2 : NI) (h2_0 : Int) (K : AExit -> St -> Option α) : ∀ (m : Nat) (i : Int) (h2_1 : NI) (h2_2 : NI),
    loopN (trimSt ((A_s_QuarterTurn_l0 α N).ann 172 5).head ((A_s_QuarterTurn_l0 α N).ann 172 5).grow 3) (bodyK Try.prog (A_s_QuarterTurn_l0 α N) 1 0 172 Try.f172 5) m (buildS s_QuarterTurn_l0_p [.i n, .i i, .i h0_0, .f h0_1, .f h0_2, .i h1_0, .f h1_1, .f h1_2, .i h2_0, .f h2_1, .f h2_2]) (leaveLoop ((A_s_QuarterTurn_l0 α N).ann 172 5) 3 K) = s_QuarterTurn_l0 none n h0_0 h0_1 h0_2 h1_0 h1_1 h1_2 h2_0 m i h2_1 h2_2 (fun h2_1_ h2_2_ => K (.exit 0) (buildS s_QuarterTurn_l0_o0 [.i h0_0, .f h0_1, .f h0_2, .i h1_0, .f h1_1, .f h1_2, .i h2_0, .f h2_1_, .f h2_2_])) := by
  intro m
  induction m with
  | zero => intros; rfl
  | succ m ih =>
    intro i h2_1 h2_2
    rw [loopN_round]
    refine (s_QuarterTurn_l0_round N n i h0_0 h0_1 h0_2 h1_0 h1_1 h1_2 h2_0 h2_1 h2_2 _ K).trans ?_
    simp only [ih]
    rfl
def E_s_QuarterTurn_l0 (α : Type) (N : Nat) : Env α := (A_s_QuarterTurn_l0 α N).addLoop2 172 5 (loopSum2 ((A_s_QuarterTurn_l0 α N).ann 172 5) 0 s_QuarterTurn_l0_p (fun l K => match l with
    | [.i n, .i i, .i h0_0, .f h0_1, .f h0_2, .i h1_0, .f h1_1, .f h1_2, .i h2_0, .f h2_1, .f h2_2] => s_QuarterTurn_l0 none n h0_0 h0_1 h0_2 h1_0 h1_1 h1_2 h2_0 N i h2_1 h2_2 (fun h2_1_ h2_2_ => K (.exit 0) (buildS s_QuarterTurn_l0_o0 [.i h0_0, .f h0_1, .f h0_2, .i h1_0, .f h1_1, .f h1_2, .i h2_0, .f h2_1_, .f h2_2_]))
    | _ => none) ((A_s_QuarterTurn_l0 α N).ls 172 5))
theorem E_s_QuarterTurn_l0_ok {α : Type} (N : Nat) : EnvOk Try.prog (E_s_QuarterTurn_l0 α N) := (A_s_QuarterTurn_l0_ok N).addLoop2 Try.func172 (by kernel_rfl) (loopSum_ok prog_mixed prog_names (A_s_QuarterTurn_l0_ok N) Try.func172 (by kernel_rfl) (d := 1) (ro := 0) fun l K r h => by
  split at h
  · exact (s_QuarterTurn_l0_loop N _ _ _ _ _ _ _ _ K N _ _ _).trans h
  · cases h)
def s_QuarterTurn_a : SPat := ⟨[.agg [.vals [.int .i64], .ints .u8 8, .ints .u8 8]], []⟩
def s_QuarterTurn_r0 : SPat := ⟨[.tuple [.agg [.vals [.int .i64], .ints .u8 8, .ints .u8 8], .int .i64]], []⟩
theorem s_QuarterTurn_run {α : Type} (N : Nat) (g_0 : Int) (g_1 : NI) (g_2 : NI) (K : AV -> Heap -> Option α) :
    callK Try.prog (E_s_QuarterTurn_l0 α N) 1 172 0 (buildS s_QuarterTurn_a [.i g_0, .f g_1, .f g_2]).t (buildS s_QuarterTurn_a [.i g_0, .f g_1, .f g_2]).h K = s_QuarterTurn none N g_0 g_1 g_2 (fun r_0_0_ r_0_1_ r_0_2_ r_1_ => retK (buildS s_QuarterTurn_r0 [.i r_0_0_, .f r_0_1_, .f r_0_2_, .i r_1_]) K) := by kernel_rfl
def E_s_QuarterTurn (α : Type) (N : Nat) : Env α := (E_s_QuarterTurn_l0 α N).addFun 172 true 0 s_QuarterTurn_a (fun l K => match l with
    | [.i g_0, .f g_1, .f g_2] => s_QuarterTurn none N g_0 g_1 g_2 (fun r_0_0_ r_0_1_ r_0_2_ r_1_ => retK (buildS s_QuarterTurn_r0 [.i r_0_0_, .f r_0_1_, .f r_0_2_, .i r_1_]) K)
    | _ => none)
theorem E_s_QuarterTurn_ok {α : Type} (N : Nat) : EnvOk Try.prog (E_s_QuarterTurn α N) := (E_s_QuarterTurn_l0_ok N).addFun prog_mixed prog_names (d := 1) fun l K r h => by
  split at h
  · exact (s_QuarterTurn_run N _ _ _ K).trans h
  · cases h
def s_TurnNumbers_l0_p : SPat := ⟨[.undef, .ptr ⟨⟨0, 0⟩, 0, 0, 1⟩, .undef, .undef, .sliceV 2 0 0 1 false, .int .i64] ++ List.replicate 30 .undef, [[.vals [.int .i64], .ints .u8 8, .ints .u8 8], [.pool .i64], [.hdr 1]]⟩
def s_TurnNumbers_l0_o0 : SPat := ⟨[.undef, .undef, .undef, .undef, .sliceV 2 0 0 1 false] ++ List.replicate 31 .undef, [[.vals [.int .i64], .ints .u8 8, .ints .u8 8], [.pool .i64], [.hdr 1]]⟩
theorem s_TurnNumbers_l0_round {α : Type} (N : Nat) (out_n : Nat) (out_l : Nat) (out_c : Nat) (k : Int) (h0_0 : Int) (h0_1 : NI) (h0_2 : NI) (h1 : List (List Int)) (h2 : List (Nat × Nat)) (kn : St -> Option α) (K : AExit -> St -> Option α) :
    roundK Try.prog (E_s_QuarterTurn α N) 1 0 74 Try.f74 5 3 (buildS s_TurnNumbers_l0_p [.n out_n, .n out_l, .n out_c, .i k, .i h0_0, .f h0_1, .f h0_2, .r h1, .p h2]) kn K = s_TurnNumbers_l0_s none N out_n out_l out_c k h0_0 h0_1 h0_2 h1 h2 (fun out_n out_l out_c k h0_0 h0_1 h0_2 h1 h2 => kn (buildS s_TurnNumbers_l0_p [.n out_n, .n out_l, .n out_c, .i k, .i h0_0, .f h0_1, .f h0_2, .r h1, .p h2])) (fun out_n_ out_l_ out_c_ h0_0_ h0_1_ h0_2_ h1_ h2_ => K (.exit 0) (buildS s_TurnNumbers_l0_o0 [.n out_n_, .n out_l_, .n out_c_, .i h0_0_, .f h0_1_, .f h0_2_, .r h1_, .p h2_])) := by kernel_rfl
theorem s_TurnNumbers_l0_loop {α : Type} (N : Nat)  (K : AExit -> St -> Option α) : ∀ (m : Nat) (out_n : Nat) (out_l : Nat) (out_c : Nat) (k : Int) (h0_0 : Int) (h0_1 : NI) (h0_2 : NI) (h1 : List (List Int)) (h2 : List (Nat × Nat)),
    loopN (trimSt ((E_s_QuarterTurn α N).ann 74 5).head ((E_s_QuarterTurn α N).ann 74 5).grow 3) (bodyK Try.prog (E_s_QuarterTurn α N) 1 0 74 Try.f74 5) m (buildS s_TurnNumbers_l0_p [.n out_n, .n out_l, .n out_c, .i k, .i h0_0, .f h0_1, .f h0_2, .r h1, .p h2]) (leaveLoop ((E_s_QuarterTurn α N).ann 74 5) 3 K) = s_TurnNumbers_l0 none N m out_n out_l out_c k h0_0 h0_1 h0_2 h1 h2 (fun out_n_ out_l_ out_c_ h0_0_ h0_1_ h0_2_ h1_ h2_ => K (.exit 0) (buildS s_TurnNumbers_l0_o0 [.n out_n_, .n out_l_, .n out_c_, .i h0_0_, .f h0_1_, .f h0_2_, .r h1_, .p h2_])) := by
  intro m
  induction m with
  | zero => intros; rfl
  | succ m ih =>
    intro out_n out_l out_c k h0_0 h0_1 h0_2 h1 h2
    rw [loopN_round]
    refine (s_TurnNumbers_l0_round N out_n out_l out_c k h0_0 h0_1 h0_2 h1 h2 _ K).trans ?_
    simp only [ih]
    rfl
def E_s_TurnNumbers_l0 (α : Type) (N : Nat) : Env α := (E_s_QuarterTurn α N).addLoop2 74 5 (loopSum2 ((E_s_QuarterTurn α N).ann 74 5) 0 s_TurnNumbers_l0_p (fun l K => match l with
    | [.n out_n, .n out_l, .n out_c, .i k, .i h0_0, .f h0_1, .f h0_2, .r h1, .p h2] => s_TurnNumbers_l0 none N N out_n out_l out_c k h0_0 h0_1 h0_2 h1 h2 (fun out_n_ out_l_ out_c_ h0_0_ h0_1_ h0_2_ h1_ h2_ => K (.exit 0) (buildS s_TurnNumbers_l0_o0 [.n out_n_, .n out_l_, .n out_c_, .i h0_0_, .f h0_1_, .f h0_2_, .r h1_, .p h2_]))
    | _ => none) ((E_s_QuarterTurn α N).ls 74 5))
theorem E_s_TurnNumbers_l0_ok {α : Type} (N : Nat) : EnvOk Try.prog (E_s_TurnNumbers_l0 α N) := (E_s_QuarterTurn_ok N).addLoop2 Try.func74 (by kernel_rfl) (loopSum_ok prog_mixed prog_names (E_s_QuarterTurn_ok N) Try.func74 (by kernel_rfl) (d := 1) (ro := 0) fun l K r h => by
  split at h
  · exact (s_TurnNumbers_l0_loop N  K N _ _ _ _ _ _ _ _ _).trans h
  · cases h)
def s_TurnNumbers_a : SPat := ⟨[.agg [.vals [.int .i64], .ints .u8 8, .ints .u8 8]], []⟩
def s_TurnNumbers_r0 : SPat := ⟨[.tuple [.nils, .int .i64]], []⟩
def s_TurnNumbers_r1 : SPat := ⟨[.tuple [.sliceV 0 0 0 1 false, .int .i64]], [[.hdr 1], [.pool .i64]]⟩
theorem s_TurnNumbers_run {α : Type} (N : Nat) (g_0 : Int) (g_1 : NI) (g_2 : NI) (K : AV -> Heap -> Option α) :
    callK Try.prog (E_s_TurnNumbers_l0 α N) 1 74 0 (buildS s_TurnNumbers_a [.i g_0, .f g_1, .f g_2]).t (buildS s_TurnNumbers_a [.i g_0, .f g_1, .f g_2]).h K = s_TurnNumbers none N g_0 g_1 g_2 (fun r_1_ => retK (buildS s_TurnNumbers_r0 [.i r_1_]) K) (fun r_0_n_ r_0_l_ r_0_c_ r_1_ h0_ h1_ => retK (buildS s_TurnNumbers_r1 [.n r_0_n_, .n r_0_l_, .n r_0_c_, .i r_1_, .p h0_, .r h1_]) K) := by kernel_rfl
def E_s_TurnNumbers (α : Type) (N : Nat) : Env α := (E_s_TurnNumbers_l0 α N).addFun 74 true 0 s_TurnNumbers_a (fun l K => match l with
    | [.i g_0, .f g_1, .f g_2] => s_TurnNumbers none N g_0 g_1 g_2 (fun r_1_ => retK (buildS s_TurnNumbers_r0 [.i r_1_]) K) (fun r_0_n_ r_0_l_ r_0_c_ r_1_ h0_ h1_ => retK (buildS s_TurnNumbers_r1 [.n r_0_n_, .n r_0_l_, .n r_0_c_, .i r_1_, .p h0_, .r h1_]) K)
    | _ => none)
theorem E_s_TurnNumbers_ok {α : Type} (N : Nat) : EnvOk Try.prog (E_s_TurnNumbers α N) := (E_s_TurnNumbers_l0_ok N).addFun prog_mixed prog_names (d := 1) fun l K r h => by
  split at h
  · exact (s_TurnNumbers_run N _ _ _ K).trans h
  · cases h
def i_Grid_isKnot_a : SPat := ⟨[.agg [.vals [.int .i64], .ints .u8 8, .ints .u8 8]], []⟩
def i_Grid_isKnot_r0 : SPat := ⟨[.bool], []⟩
theorem i_Grid_isKnot_run {α : Type} (N : Nat) (g_0 : Int) (g_1 : NI) (g_2 : NI) (K : AV -> Heap -> Option α) :
    callK Try.prog (E_s_TurnNumbers α N) 1 110 0 (buildS i_Grid_isKnot_a [.i g_0, .f g_1, .f g_2]).t (buildS i_Grid_isKnot_a [.i g_0, .f g_1, .f g_2]).h K = i_Grid_isKnot none N g_0 g_1 g_2 (fun r__ => retK (buildS i_Grid_isKnot_r0 [.b r__]) K) := by kernel_rfl
def E_i_Grid_isKnot (α : Type) (N : Nat) : Env α := (E_s_TurnNumbers α N).addFun 110 true 0 i_Grid_isKnot_a (fun l K => match l with
    | [.i g_0, .f g_1, .f g_2] => i_Grid_isKnot none N g_0 g_1 g_2 (fun r__ => retK (buildS i_Grid_isKnot_r0 [.b r__]) K)
    | _ => none)
theorem E_i_Grid_isKnot_ok {α : Type} (N : Nat) : EnvOk Try.prog (E_i_Grid_isKnot α N) := (E_s_TurnNumbers_ok N).addFun prog_mixed prog_names (d := 1) fun l K r h => by
  split at h
  · exact (i_Grid_isKnot_run N _ _ _ K).trans h
  · cases h
def i_SelfLinkings_1_a : SPat := ⟨[.agg [.vals [.int .i64], .ints .u8 8, .ints .u8 8]], []⟩
def i_SelfLinkings_1_r0 : SPat := ⟨[.slice ⟨⟨0, 0⟩, 0, 0, 2⟩ 2 2 1 true], [[.vec .i64]]⟩
theorem i_SelfLinkings_1_run {α : Type} (N : Nat) (g_0 : Int) (g_1 : NI) (g_2 : NI) (K : AV -> Heap -> Option α) :
    callK Try.prog (E_i_Grid_isKnot α N) 1 152 0 (buildS i_SelfLinkings_1_a [.i g_0, .f g_1, .f g_2]).t (buildS i_SelfLinkings_1_a [.i g_0, .f g_1, .f g_2]).h K = i_SelfLinkings_1 none N g_0 g_1 g_2 (fun h0_ => retK (buildS i_SelfLinkings_1_r0 [.l h0_]) K) := by kernel_rfl
def E_i_SelfLinkings_1 (α : Type) (N : Nat) : Env α := (E_i_Grid_isKnot α N).addFun 152 true 0 i_SelfLinkings_1_a (fun l K => match l with
    | [.i g_0, .f g_1, .f g_2] => i_SelfLinkings_1 none N g_0 g_1 g_2 (fun h0_ => retK (buildS i_SelfLinkings_1_r0 [.l h0_]) K)
    | _ => none)
theorem E_i_SelfLinkings_1_ok {α : Type} (N : Nat) : EnvOk Try.prog (E_i_SelfLinkings_1 α N) := (E_i_Grid_isKnot_ok N).addFun prog_mixed prog_names (d := 1) fun l K r h => by
  split at h
  · exact (i_SelfLinkings_1_run N _ _ _ K).trans h
  · cases h
def i_knotted_int64_a : SPat := ⟨[.agg [.vals [.int .i64], .ints .u8 8, .ints .u8 8], .func 152 []], []⟩
def i_knotted_int64_r0 : SPat := ⟨[.tuple [.nils, .int .i64]], []⟩
def i_knotted_int64_r1 : SPat := ⟨[.tuple [.slice ⟨⟨0, 0⟩, 0, 0, 2⟩ 2 2 1 true, .int .i64]], [[.vec .i64]]⟩
theorem i_knotted_int64_run {α : Type} (N : Nat) (g_0 : Int) (g_1 : NI) (g_2 : NI) (K : AV -> Heap -> Option α) :
    callK Try.prog (E_i_SelfLinkings_1 α N) 1 151 0 (buildS i_knotted_int64_a [.i g_0, .f g_1, .f g_2]).t (buildS i_knotted_int64_a [.i g_0, .f g_1, .f g_2]).h K = i_knotted_int64 none N g_0 g_1 g_2 (fun r_1_ => retK (buildS i_knotted_int64_r0 [.i r_1_]) K) (fun r_1_ h0_ => retK (buildS i_knotted_int64_r1 [.i r_1_, .l h0_]) K) := by kernel_rfl
def E_i_knotted_int64 (α : Type) (N : Nat) : Env α := (E_i_SelfLinkings_1 α N).addFun 151 true 0 i_knotted_int64_a (fun l K => match l with
    | [.i g_0, .f g_1, .f g_2] => i_knotted_int64 none N g_0 g_1 g_2 (fun r_1_ => retK (buildS i_knotted_int64_r0 [.i r_1_]) K) (fun r_1_ h0_ => retK (buildS i_knotted_int64_r1 [.i r_1_, .l h0_]) K)
    | _ => none)
theorem E_i_knotted_int64_ok {α : Type} (N : Nat) : EnvOk Try.prog (E_i_knotted_int64 α N) := (E_i_SelfLinkings_1_ok N).addFun prog_mixed prog_names (d := 1) fun l K r h => by
  split at h
  · exact (i_knotted_int64_run N _ _ _ K).trans h
  · cases h
def i_SelfLinkings_a : SPat := ⟨[.agg [.vals [.int .i64], .ints .u8 8, .ints .u8 8]], []⟩
def i_SelfLinkings_r0 : SPat := ⟨[.tuple [.nils, .int .i64]], []⟩
def i_SelfLinkings_r1 : SPat := ⟨[.tuple [.slice ⟨⟨0, 0⟩, 0, 0, 2⟩ 2 2 1 true, .int .i64]], [[.vec .i64]]⟩
theorem i_SelfLinkings_run {α : Type} (N : Nat) (g_0 : Int) (g_1 : NI) (g_2 : NI) (K : AV -> Heap -> Option α) :
    callK Try.prog (E_i_knotted_int64 α N) 1 58 0 (buildS i_SelfLinkings_a [.i g_0, .f g_1, .f g_2]).t (buildS i_SelfLinkings_a [.i g_0, .f g_1, .f g_2]).h K = i_SelfLinkings none N g_0 g_1 g_2 (fun r_1_ => retK (buildS i_SelfLinkings_r0 [.i r_1_]) K) (fun r_1_ h0_ => retK (buildS i_SelfLinkings_r1 [.i r_1_, .l h0_]) K) := by kernel_rfl
def E_i_SelfLinkings (α : Type) (N : Nat) : Env α := (E_i_knotted_int64 α N).addFun 58 true 0 i_SelfLinkings_a (fun l K => match l with
    | [.i g_0, .f g_1, .f g_2] => i_SelfLinkings none N g_0 g_1 g_2 (fun r_1_ => retK (buildS i_SelfLinkings_r0 [.i r_1_]) K) (fun r_1_ h0_ => retK (buildS i_SelfLinkings_r1 [.i r_1_, .l h0_]) K)
    | _ => none)
theorem E_i_SelfLinkings_ok {α : Type} (N : Nat) : EnvOk Try.prog (E_i_SelfLinkings α N) := (E_i_knotted_int64_ok N).addFun prog_mixed prog_names (d := 1) fun l K r h => by
  split at h
  · exact (i_SelfLinkings_run N _ _ _ K).trans h
  · cases h
def s_SelfLinkings_a : SPat := ⟨[.agg [.vals [.int .i64], .ints .u8 8, .ints .u8 8]], []⟩
def s_SelfLinkings_r0 : SPat := ⟨[.tuple [.nils, .int .i64]], []⟩
def s_SelfLinkings_r1 : SPat := ⟨[.tuple [.slice ⟨⟨0, 0⟩, 0, 0, 2⟩ 2 2 1 true, .int .i64]], [[.vec .i64]]⟩
theorem s_SelfLinkings_run {α : Type} (N : Nat) (g_0 : Int) (g_1 : NI) (g_2 : NI) (K : AV -> Heap -> Option α) :
    callK Try.prog (E_i_SelfLinkings α N) 1 75 0 (buildS s_SelfLinkings_a [.i g_0, .f g_1, .f g_2]).t (buildS s_SelfLinkings_a [.i g_0, .f g_1, .f g_2]).h K = s_SelfLinkings none N g_0 g_1 g_2 (fun r_1_ => retK (buildS s_SelfLinkings_r0 [.i r_1_]) K) (fun r_1_ h0_ => retK (buildS s_SelfLinkings_r1 [.i r_1_, .l h0_]) K) := by kernel_rfl
def E_s_SelfLinkings (α : Type) (N : Nat) : Env α := (E_i_SelfLinkings α N).addFun 75 true 0 s_SelfLinkings_a (fun l K => match l with
    | [.i g_0, .f g_1, .f g_2] => s_SelfLinkings none N g_0 g_1 g_2 (fun r_1_ => retK (buildS s_SelfLinkings_r0 [.i r_1_]) K) (fun r_1_ h0_ => retK (buildS s_SelfLinkings_r1 [.i r_1_, .l h0_]) K)
    | _ => none)
theorem E_s_SelfLinkings_ok {α : Type} (N : Nat) : EnvOk Try.prog (E_s_SelfLinkings α N) := (E_i_SelfLinkings_ok N).addFun prog_mixed prog_names (d := 1) fun l K r h => by
  split at h
  · exact (s_SelfLinkings_run N _ _ _ K).trans h
  · cases h
def A_w_rows5_l0 (α : Type) (N : Nat) : Env α := (E_s_SelfLinkings α N).addAnn 22 4 { head := [0, 1, 5], grow := [], out := [], ret := [4] }
theorem A_w_rows5_l0_ok {α : Type} (N : Nat) : EnvOk Try.prog (A_w_rows5_l0 α N) := (E_s_SelfLinkings_ok N).addAnn
def w_rows5_l0_p : SPat := ⟨[.nils, .nils, .undef, .undef, .undef, .int .i64] ++ List.replicate 21 .undef, []⟩
def w_rows5_l0_o0 : SPat := ⟨[] ++ List.replicate 27 .undef, []⟩
theorem w_rows5_l0_round {α : Type} (N : Nat) (i : Int) (kn : St -> Option α) (K : AExit -> St -> Option α) :
    roundK Try.prog (A_w_rows5_l0 α N) 1 0 22 Try.f22 4 0 (buildS w_rows5_l0_p [.i i]) kn K = w_rows5_l0_s none i  (kn (buildS w_rows5_l0_p [.i i])) (K (.exit 0) (buildS w_rows5_l0_o0 [])) := by kernel_rfl
theorem w_rows5_l0_loop {α : Type} (N : Nat) (i : Int) (K : AExit -> St -> Option α) : ∀ (m : Nat),
    loopN (trimSt ((A_w_rows5_l0 α N).ann 22 4).head ((A_w_rows5_l0 α N).ann 22 4).grow 0) (bodyK Try.prog (A_w_rows5_l0 α N) 1 0 22 Try.f22 4) m (buildS w_rows5_l0_p [.i i]) (leaveLoop ((A_w_rows5_l0 α N).ann 22 4) 0 K) = w_rows5_l0 none i m  (K (.exit 0) (buildS w_rows5_l0_o0 [])) := by
  intro m
  induction m with
  | zero => intros; rfl
  | succ m ih =>
    rw [loopN_round]
    refine (w_rows5_l0_round N i _ K).trans ?_
    simp only [ih]
    rfl
def E_w_rows5_l0 (α : Type) (N : Nat) : Env α := (A_w_rows5_l0 α N).addLoop2 22 4 (loopSum2 ((A_w_rows5_l0 α N).ann 22 4) 0 w_rows5_l0_p (fun l K => match l with
    | [.i i] => w_rows5_l0 none i N  (K (.exit 0) (buildS w_rows5_l0_o0 []))
    | _ => none) ((A_w_rows5_l0 α N).ls 22 4))
theorem E_w_rows5_l0_ok {α : Type} (N : Nat) : EnvOk Try.prog (E_w_rows5_l0 α N) := (A_w_rows5_l0_ok N).addLoop2 Try.func22 (by kernel_rfl) (loopSum_ok prog_mixed prog_names (A_w_rows5_l0_ok N) Try.func22 (by kernel_rfl) (d := 1) (ro := 0) fun l K r h => by
  split at h
  · exact (w_rows5_l0_loop N _ K N ).trans h
  · cases h)
def w_rows5_a : SPat := ⟨[.nils, .nils], []⟩
def w_rows5_r0 : SPat := ⟨[.bool], []⟩
theorem w_rows5_run {α : Type} (N : Nat)  (K : AV -> Heap -> Option α) :
    callK Try.prog (E_w_rows5_l0 α N) 1 22 0 (buildS w_rows5_a []).t (buildS w_rows5_a []).h K = w_rows5 none N  (fun r__ => retK (buildS w_rows5_r0 [.b r__]) K) := by kernel_rfl
def E_w_rows5 (α : Type) (N : Nat) : Env α := (E_w_rows5_l0 α N).addFun 22 true 0 w_rows5_a (fun l K => match l with
    | [] => w_rows5 none N  (fun r__ => retK (buildS w_rows5_r0 [.b r__]) K)
    | _ => none)
theorem E_w_rows5_ok {α : Type} (N : Nat) : EnvOk Try.prog (E_w_rows5 α N) := (E_w_rows5_l0_ok N).addFun prog_mixed prog_names (d := 1) fun l K r h => by
  split at h
  · exact (w_rows5_run N  K).trans h
  · cases h
def A_w_likeInts_l0 (α : Type) (N : Nat) : Env α := (E_w_rows5 α N).addAnn 76 4 { head := [0, 1, 5], grow := [], out := [], ret := [4] }
theorem A_w_likeInts_l0_ok {α : Type} (N : Nat) : EnvOk Try.prog (A_w_likeInts_l0 α N) := (E_w_rows5_ok N).addAnn
def w_likeInts_l0_p : SPat := ⟨[.nils, .nils, .undef, .undef, .undef, .int .i64] ++ List.replicate 20 .undef, []⟩
def w_likeInts_l0_o0 : SPat := ⟨[] ++ List.replicate 26 .undef, []⟩
theorem w_likeInts_l0_round {α : Type} (N : Nat) (i : Int) (kn : St -> Option α) (K : AExit -> St -> Option α) :
    roundK Try.prog (A_w_likeInts_l0 α N) 1 0 76 Try.f76 4 0 (buildS w_likeInts_l0_p [.i i]) kn K = w_likeInts_l0_s none i  (kn (buildS w_likeInts_l0_p [.i i])) (K (.exit 0) (buildS w_likeInts_l0_o0 [])) := by kernel_rfl
theorem w_likeInts_l0_loop {α : Type} (N : Nat) (i : Int) (K : AExit -> St -> Option α) : ∀ (m : Nat),
    loopN (trimSt ((A_w_likeInts_l0 α N).ann 76 4).head ((A_w_likeInts_l0 α N).ann 76 4).grow 0) (bodyK Try.prog (A_w_likeInts_l0 α N) 1 0 76 Try.f76 4) m (buildS w_likeInts_l0_p [.i i]) (leaveLoop ((A_w_likeInts_l0 α N).ann 76 4) 0 K) = w_likeInts_l0 none i m  (K (.exit 0) (buildS w_likeInts_l0_o0 [])) := by
  intro m
  induction m with
  | zero => intros; rfl
  | succ m ih =>
    rw [loopN_round]
    refine (w_likeInts_l0_round N i _ K).trans ?_
    simp only [ih]
    rfl
def E_w_likeInts_l0 (α : Type) (N : Nat) : Env α := (A_w_likeInts_l0 α N).addLoop2 76 4 (loopSum2 ((A_w_likeInts_l0 α N).ann 76 4) 0 w_likeInts_l0_p (fun l K => match l with
    | [.i i] => w_likeInts_l0 none i N  (K (.exit 0) (buildS w_likeInts_l0_o0 []))
    | _ => none) ((A_w_likeInts_l0 α N).ls 76 4))
theorem E_w_likeInts_l0_ok {α : Type} (N : Nat) : EnvOk Try.prog (E_w_likeInts_l0 α N) := (A_w_likeInts_l0_ok N).addLoop2 Try.func76 (by kernel_rfl) (loopSum_ok prog_mixed prog_names (A_w_likeInts_l0_ok N) Try.func76 (by kernel_rfl) (d := 1) (ro := 0) fun l K r h => by
  split at h
  · exact (w_likeInts_l0_loop N _ K N ).trans h
  · cases h)
def w_likeInts_a : SPat := ⟨[.nils, .nils], []⟩
def w_likeInts_r0 : SPat := ⟨[.bool], []⟩
theorem w_likeInts_run {α : Type} (N : Nat)  (K : AV -> Heap -> Option α) :
    callK Try.prog (E_w_likeInts_l0 α N) 1 76 0 (buildS w_likeInts_a []).t (buildS w_likeInts_a []).h K = w_likeInts none N  (fun r__ => retK (buildS w_likeInts_r0 [.b r__]) K) := by kernel_rfl
def E_w_likeInts (α : Type) (N : Nat) : Env α := (E_w_likeInts_l0 α N).addFun 76 true 0 w_likeInts_a (fun l K => match l with
    | [] => w_likeInts none N  (fun r__ => retK (buildS w_likeInts_r0 [.b r__]) K)
    | _ => none)
theorem E_w_likeInts_ok {α : Type} (N : Nat) : EnvOk Try.prog (E_w_likeInts α N) := (E_w_likeInts_l0_ok N).addFun prog_mixed prog_names (d := 1) fun l K r h => by
  split at h
  · exact (w_likeInts_run N  K).trans h
  · cases h
def A_w_FnCorners_l1 (α : Type) (N : Nat) : Env α := (E_w_likeInts α N).addAnn 8 27 { head := [3, 4, 5, 8, 10, 14, 16, 26, 27], grow := [], out := [3, 4, 5, 8, 10, 26], ret := [2] }
theorem A_w_FnCorners_l1_ok {α : Type} (N : Nat) : EnvOk Try.prog (A_w_FnCorners_l1 α N) := (E_w_likeInts_ok N).addAnn
def w_FnCorners_l1_p : SPat := ⟨[.undef, .undef, .undef, .ptr ⟨⟨1, 0⟩, 0, 0, 1⟩, .nils, .intC .i64 1, .undef, .undef, .ptr ⟨⟨2, 0⟩, 0, 0, 4⟩, .undef, .nils, .undef, .undef, .undef, .nils, .undef, .nils, .undef, .undef, .undef, .undef, .undef, .undef, .undef, .undef, .undef, .int .i64, .int .i64] ++ List.replicate 241 .undef, [[.intsV .u8], [.vals [.int .i64], .ints .u8 8, .ints .u8 8], [.ints .i64 4]]⟩
def w_FnCorners_l1_o0 : SPat := ⟨[.undef, .undef, .undef, .ptr ⟨⟨1, 0⟩, 0, 0, 1⟩, .nils, .intC .i64 1, .undef, .undef, .ptr ⟨⟨2, 0⟩, 0, 0, 4⟩, .undef, .nils, .undef, .undef, .undef, .undef, .undef, .undef, .undef, .undef, .undef, .undef, .undef, .undef, .undef, .undef, .undef, .int .i64] ++ List.replicate 242 .undef, [[.intsV .u8], [.vals [.int .i64], .ints .u8 8, .ints .u8 8], [.ints .i64 4]]⟩
theorem w_FnCorners_l1_round {α : Type} (N : Nat) (t26 : Int) (t27 : Int) (h0_n : Nat) (h0 : NI) (h1_0 : Int) (h1_1 : NI) (h1_2 : NI) (h2 : NI) (kn : St -> Option α) (K : AExit -> St -> Option α) :
    roundK Try.prog (A_w_FnCorners_l1 α N) 1 1 8 Try.f8 27 3 (buildS w_FnCorners_l1_p [.i t26, .i t27, .n h0_n, .f h0, .i h1_0, .f h1_1, .f h1_2, .f h2]) kn K = w_FnCorners_l1_s none t26 t27 h0_n h0 h1_0 h1_1 h1_2 h2  (kn (buildS w_FnCorners_l1_p [.i t26, .i t27, .n h0_n, .f h0, .i h1_0, .f h1_1, .f h1_2, .f h2])) (K (.exit 2) (buildS w_FnCorners_l1_o0 [.i t26, .n h0_n, .f h0, .i h1_0, .f h1_1, .f h1_2, .f h2])) := by kernel_rfl
theorem w_FnCorners_l1_loop {α : Type} (N : Nat) (t26 : Int) (t27 : Int) (h0_n : Nat) (h0 : NI) (h1_0 : Int) (h1_1 : NI) (h1_2 : NI) (h2 : NI) (K : AExit -> St -> Option α) : ∀ (m : Nat),
    loopN (trimSt ((A_w_FnCorners_l1 α N).ann 8 27).head ((A_w_FnCorners_l1 α N).ann 8 27).grow 3) (bodyK Try.prog (A_w_FnCorners_l1 α N) 1 1 8 Try.f8 27) m (buildS w_FnCorners_l1_p [.i t26, .i t27, .n h0_n, .f h0, .i h1_0, .f h1_1, .f h1_2, .f h2]) (leaveLoop ((A_w_FnCorners_l1 α N).ann 8 27) 3 K) = w_FnCorners_l1 none t26 t27 h0_n h0 h1_0 h1_1 h1_2 h2 m  (K (.exit 2) (buildS w_FnCorners_l1_o0 [.i t26, .n h0_n, .f h0, .i h1_0, .f h1_1, .f h1_2, .f h2])) := by
  intro m
  induction m with
  | zero => intros; rfl
  | succ m ih =>
    rw [loopN_round]
    refine (w_FnCorners_l1_round N t26 t27 h0_n h0 h1_0 h1_1 h1_2 h2 _ K).trans ?_
    simp only [ih]
    rfl
def E_w_FnCorners_l1 (α : Type) (N : Nat) : Env α := (A_w_FnCorners_l1 α N).addLoop2 8 27 (loopSum2 ((A_w_FnCorners_l1 α N).ann 8 27) 1 w_FnCorners_l1_p (fun l K => match l with
    | [.i t26, .i t27, .n h0_n, .f h0, .i h1_0, .f h1_1, .f h1_2, .f h2] => w_FnCorners_l1 none t26 t27 h0_n h0 h1_0 h1_1 h1_2 h2 N  (K (.exit 2) (buildS w_FnCorners_l1_o0 [.i t26, .n h0_n, .f h0, .i h1_0, .f h1_1, .f h1_2, .f h2]))
    | _ => none) ((A_w_FnCorners_l1 α N).ls 8 27))
theorem E_w_FnCorners_l1_ok {α : Type} (N : Nat) : EnvOk Try.prog (E_w_FnCorners_l1 α N) := (A_w_FnCorners_l1_ok N).addLoop2 Try.func8 (by kernel_rfl) (loopSum_ok prog_mixed prog_names (A_w_FnCorners_l1_ok N) Try.func8 (by kernel_rfl) (d := 1) (ro := 1) fun l K r h => by
  split at h
  · exact (w_FnCorners_l1_loop N _ _ _ _ _ _ _ _ K N ).trans h
  · cases h)
def w_likeInts_l0_s2_p : SPat := ⟨[.sliceR 0 1 false, .sliceR 1 1 false, .undef, .undef, .undef, .int .i64] ++ List.replicate 20 .undef, [[.pool .i64], [.pool .i64]]⟩
def w_likeInts_l0_s2_o0 : SPat := ⟨[.undef, .undef, .undef, .undef, .boolC false] ++ List.replicate 21 .undef, [[.pool .i64], [.pool .i64]]⟩
def w_likeInts_l0_s2_o1 : SPat := ⟨[] ++ List.replicate 26 .undef, [[.pool .i64], [.pool .i64]]⟩
theorem w_likeInts_l0_s2_round {α : Type} (N : Nat) (a_r : Nat) (a_o : Nat) (a_n : Nat) (a_l : Nat) (a_c : Nat) (b_r : Nat) (b_o : Nat) (b_n : Nat) (b_l : Nat) (b_c : Nat) (i : Int) (h0 : List (List Int)) (h1 : List (List Int)) (kn : St -> Option α) (K : AExit -> St -> Option α) :
    roundK Try.prog (E_w_FnCorners_l1 α N) 1 2 76 Try.f76 4 2 (buildS w_likeInts_l0_s2_p [.n a_r, .n a_o, .n a_n, .n a_l, .n a_c, .n b_r, .n b_o, .n b_n, .n b_l, .n b_c, .i i, .r h0, .r h1]) kn K = w_likeInts_l0_s2_s none a_r a_o a_n a_l a_c b_r b_o b_n b_l b_c h0 h1 i (fun i => kn (buildS w_likeInts_l0_s2_p [.n a_r, .n a_o, .n a_n, .n a_l, .n a_c, .n b_r, .n b_o, .n b_n, .n b_l, .n b_c, .i i, .r h0, .r h1])) (K .ret (buildS w_likeInts_l0_s2_o0 [.r h0, .r h1])) (K (.exit 0) (buildS w_likeInts_l0_s2_o1 [.r h0, .r h1])) := by kernel_rfl
theorem w_likeInts_l0_s2_loop {α : Type} (N : Nat) (a_r : Nat) (a_o : Nat) (a_n : Nat) (a_l : Nat) (a_c : Nat) (b_r : Nat) (b_o : Nat) (b_n : Nat) (b_l : Nat) (b_c : Nat) (h0 : List (List Int)) (h1 : List (List Int)) (K : AExit -> St -> Option α) : ∀ (m : Nat) (i : Int),
    loopN (trimSt ((E_w_FnCorners_l1 α N).ann 76 4).head ((E_w_FnCorners_l1 α N).ann 76 4).grow 2) (bodyK Try.prog (E_w_FnCorners_l1 α N) 1 2 76 Try.f76 4) m (buildS w_likeInts_l0_s2_p [.n a_r, .n a_o, .n a_n, .n a_l, .n a_c, .n b_r, .n b_o, .n b_n, .n b_l, .n b_c, .i i, .r h0, .r h1]) (leaveLoop ((E_w_FnCorners_l1 α N).ann 76 4) 2 K) = w_likeInts_l0_s2 none a_r a_o a_n a_l a_c b_r b_o b_n b_l b_c h0 h1 m i (K .ret (buildS w_likeInts_l0_s2_o0 [.r h0, .r h1])) (K (.exit 0) (buildS w_likeInts_l0_s2_o1 [.r h0, .r h1])) := by
  intro m
  induction m with
  | zero => intros; rfl
  | succ m ih =>
    intro i
    rw [loopN_round]
    refine (w_likeInts_l0_s2_round N a_r a_o a_n a_l a_c b_r b_o b_n b_l b_c i h0 h1 _ K).trans ?_
    simp only [ih]
    rfl
def E_w_likeInts_l0_s2 (α : Type) (N : Nat) : Env α := (E_w_FnCorners_l1 α N).addLoop2 76 4 (loopSum2 ((E_w_FnCorners_l1 α N).ann 76 4) 2 w_likeInts_l0_s2_p (fun l K => match l with
    | [.n a_r, .n a_o, .n a_n, .n a_l, .n a_c, .n b_r, .n b_o, .n b_n, .n b_l, .n b_c, .i i, .r h0, .r h1] => w_likeInts_l0_s2 none a_r a_o a_n a_l a_c b_r b_o b_n b_l b_c h0 h1 N i (K .ret (buildS w_likeInts_l0_s2_o0 [.r h0, .r h1])) (K (.exit 0) (buildS w_likeInts_l0_s2_o1 [.r h0, .r h1]))
    | _ => none) ((E_w_FnCorners_l1 α N).ls 76 4))
theorem E_w_likeInts_l0_s2_ok {α : Type} (N : Nat) : EnvOk Try.prog (E_w_likeInts_l0_s2 α N) := (E_w_FnCorners_l1_ok N).addLoop2 Try.func76 (by kernel_rfl) (loopSum_ok prog_mixed prog_names (E_w_FnCorners_l1_ok N) Try.func76 (by kernel_rfl) (d := 1) (ro := 2) fun l K r h => by
  split at h
  · exact (w_likeInts_l0_s2_loop N _ _ _ _ _ _ _ _ _ _ _ _ K N _).trans h
  · cases h)
def w_likeInts_s2_a : SPat := ⟨[.sliceR 0 1 false, .sliceR 1 1 false], [[.pool .i64], [.pool .i64]]⟩
def w_likeInts_s2_r0 : SPat := ⟨[.bool], [[.pool .i64], [.pool .i64]]⟩
theorem w_likeInts_s2_run {α : Type} (N : Nat) (a_r : Nat) (a_o : Nat) (a_n : Nat) (a_l : Nat) (a_c : Nat) (b_r : Nat) (b_o : Nat) (b_n : Nat) (b_l : Nat) (b_c : Nat) (h0 : List (List Int)) (h1 : List (List Int)) (K : AV -> Heap -> Option α) :
    callK Try.prog (E_w_likeInts_l0_s2 α N) 1 76 2 (buildS w_likeInts_s2_a [.n a_r, .n a_o, .n a_n, .n a_l, .n a_c, .n b_r, .n b_o, .n b_n, .n b_l, .n b_c, .r h0, .r h1]).t (buildS w_likeInts_s2_a [.n a_r, .n a_o, .n a_n, .n a_l, .n a_c, .n b_r, .n b_o, .n b_n, .n b_l, .n b_c, .r h0, .r h1]).h K = w_likeInts_s2 none N a_r a_o a_n a_l a_c b_r b_o b_n b_l b_c h0 h1 (fun r__ => retK (buildS w_likeInts_s2_r0 [.b r__, .r h0, .r h1]) K) := by kernel_rfl
def E_w_likeInts_s2 (α : Type) (N : Nat) : Env α := (E_w_likeInts_l0_s2 α N).addFun 76 true 2 w_likeInts_s2_a (fun l K => match l with
    | [.n a_r, .n a_o, .n a_n, .n a_l, .n a_c, .n b_r, .n b_o, .n b_n, .n b_l, .n b_c, .r h0, .r h1] => w_likeInts_s2 none N a_r a_o a_n a_l a_c b_r b_o b_n b_l b_c h0 h1 (fun r__ => retK (buildS w_likeInts_s2_r0 [.b r__, .r h0, .r h1]) K)
    | _ => none)
theorem E_w_likeInts_s2_ok {α : Type} (N : Nat) : EnvOk Try.prog (E_w_likeInts_s2 α N) := (E_w_likeInts_l0_s2_ok N).addFun prog_mixed prog_names (d := 1) fun l K r h => by
  split at h
  · exact (w_likeInts_s2_run N _ _ _ _ _ _ _ _ _ _ _ _ K).trans h
  · cases h
def w_rows5_l0_s2_p : SPat := ⟨[.sliceV 0 0 0 1 false, .sliceV 1 0 0 1 false, .undef, .undef, .undef, .int .i64] ++ List.replicate 21 .undef, [[.hdr 2], [.hdr 3], [.pool .i64], [.pool .i64]]⟩
def w_rows5_l0_s2_o0 : SPat := ⟨[.undef, .undef, .undef, .undef, .boolC false] ++ List.replicate 22 .undef, [[.hdr 2], [.hdr 3], [.pool .i64], [.pool .i64]]⟩
def w_rows5_l0_s2_o1 : SPat := ⟨[] ++ List.replicate 27 .undef, [[.hdr 2], [.hdr 3], [.pool .i64], [.pool .i64]]⟩
theorem w_rows5_l0_s2_round {α : Type} (N : Nat) (a_n : Nat) (a_l : Nat) (a_c : Nat) (b_n : Nat) (b_l : Nat) (b_c : Nat) (i : Int) (h0 : List (Nat × Nat)) (h1 : List (Nat × Nat)) (h2 : List (List Int)) (h3 : List (List Int)) (kn : St -> Option α) (K : AExit -> St -> Option α) :
    roundK Try.prog (E_w_likeInts_s2 α N) 1 4 22 Try.f22 4 4 (buildS w_rows5_l0_s2_p [.n a_n, .n a_l, .n a_c, .n b_n, .n b_l, .n b_c, .i i, .p h0, .p h1, .r h2, .r h3]) kn K = w_rows5_l0_s2_s none N a_n a_l a_c b_n b_l b_c h0 h1 h2 h3 i (fun i => kn (buildS w_rows5_l0_s2_p [.n a_n, .n a_l, .n a_c, .n b_n, .n b_l, .n b_c, .i i, .p h0, .p h1, .r h2, .r h3])) (K .ret (buildS w_rows5_l0_s2_o0 [.p h0, .p h1, .r h2, .r h3])) (K (.exit 0) (buildS w_rows5_l0_s2_o1 [.p h0, .p h1, .r h2, .r h3])) := by kernel_rfl
theorem w_rows5_l0_s2_loop {α : Type} (N : Nat) (a_n : Nat) (a_l : Nat) (a_c : Nat) (b_n : Nat) (b_l : Nat) (b_c : Nat) (h0 : List (Nat × Nat)) (h1 : List (Nat × Nat)) (h2 : List (List Int)) (h3 : List (List Int)) (K : AExit -> St -> Option α) : ∀ (m : Nat) (i : Int),
    loopN (trimSt ((E_w_likeInts_s2 α N).ann 22 4).head ((E_w_likeInts_s2 α N).ann 22 4).grow 4) (bodyK Try.prog (E_w_likeInts_s2 α N) 1 4 22 Try.f22 4) m (buildS w_rows5_l0_s2_p [.n a_n, .n a_l, .n a_c, .n b_n, .n b_l, .n b_c, .i i, .p h0, .p h1, .r h2, .r h3]) (leaveLoop ((E_w_likeInts_s2 α N).ann 22 4) 4 K) = w_rows5_l0_s2 none N a_n a_l a_c b_n b_l b_c h0 h1 h2 h3 m i (K .ret (buildS w_rows5_l0_s2_o0 [.p h0, .p h1, .r h2, .r h3])) (K (.exit 0) (buildS w_rows5_l0_s2_o1 [.p h0, .p h1, .r h2, .r h3])) := by
  intro m
  induction m with
  | zero => intros; rfl
  | succ m ih =>
    intro i
    rw [loopN_round]
    refine (w_rows5_l0_s2_round N a_n a_l a_c b_n b_l b_c i h0 h1 h2 h3 _ K).trans ?_
    simp only [ih]
    rfl
def E_w_rows5_l0_s2 (α : Type) (N : Nat) : Env α := (E_w_likeInts_s2 α N).addLoop2 22 4 (loopSum2 ((E_w_likeInts_s2 α N).ann 22 4) 4 w_rows5_l0_s2_p (fun l K => match l with
    | [.n a_n, .n a_l, .n a_c, .n b_n, .n b_l, .n b_c, .i i, .p h0, .p h1, .r h2, .r h3] => w_rows5_l0_s2 none N a_n a_l a_c b_n b_l b_c h0 h1 h2 h3 N i (K .ret (buildS w_rows5_l0_s2_o0 [.p h0, .p h1, .r h2, .r h3])) (K (.exit 0) (buildS w_rows5_l0_s2_o1 [.p h0, .p h1, .r h2, .r h3]))
    | _ => none) ((E_w_likeInts_s2 α N).ls 22 4))
theorem E_w_rows5_l0_s2_ok {α : Type} (N : Nat) : EnvOk Try.prog (E_w_rows5_l0_s2 α N) := (E_w_likeInts_s2_ok N).addLoop2 Try.func22 (by kernel_rfl) (loopSum_ok prog_mixed prog_names (E_w_likeInts_s2_ok N) Try.func22 (by kernel_rfl) (d := 1) (ro := 4) fun l K r h => by
  split at h
  · exact (w_rows5_l0_s2_loop N _ _ _ _ _ _ _ _ _ _ K N _).trans h
  · cases h)
def w_rows5_s2_a : SPat := ⟨[.sliceV 0 0 0 1 false, .sliceV 1 0 0 1 false], [[.hdr 2], [.hdr 3], [.pool .i64], [.pool .i64]]⟩
def w_rows5_s2_r0 : SPat := ⟨[.bool], [[.hdr 2], [.hdr 3], [.pool .i64], [.pool .i64]]⟩
theorem w_rows5_s2_run {α : Type} (N : Nat) (a_n : Nat) (a_l : Nat) (a_c : Nat) (b_n : Nat) (b_l : Nat) (b_c : Nat) (h0 : List (Nat × Nat)) (h1 : List (Nat × Nat)) (h2 : List (List Int)) (h3 : List (List Int)) (K : AV -> Heap -> Option α) :
    callK Try.prog (E_w_rows5_l0_s2 α N) 1 22 4 (buildS w_rows5_s2_a [.n a_n, .n a_l, .n a_c, .n b_n, .n b_l, .n b_c, .p h0, .p h1, .r h2, .r h3]).t (buildS w_rows5_s2_a [.n a_n, .n a_l, .n a_c, .n b_n, .n b_l, .n b_c, .p h0, .p h1, .r h2, .r h3]).h K = w_rows5_s2 none N a_n a_l a_c b_n b_l b_c h0 h1 h2 h3 (fun r__ => retK (buildS w_rows5_s2_r0 [.b r__, .p h0, .p h1, .r h2, .r h3]) K) := by kernel_rfl
def E_w_rows5_s2 (α : Type) (N : Nat) : Env α := (E_w_rows5_l0_s2 α N).addFun 22 true 4 w_rows5_s2_a (fun l K => match l with
    | [.n a_n, .n a_l, .n a_c, .n b_n, .n b_l, .n b_c, .p h0, .p h1, .r h2, .r h3] => w_rows5_s2 none N a_n a_l a_c b_n b_l b_c h0 h1 h2 h3 (fun r__ => retK (buildS w_rows5_s2_r0 [.b r__, .p h0, .p h1, .r h2, .r h3]) K)
    | _ => none)
theorem E_w_rows5_s2_ok {α : Type} (N : Nat) : EnvOk Try.prog (E_w_rows5_s2 α N) := (E_w_rows5_l0_s2_ok N).addFun prog_mixed prog_names (d := 1) fun l K r h => by
  split at h
  · exact (w_rows5_s2_run N _ _ _ _ _ _ _ _ _ _ K).trans h
  · cases h
def w_likeInts_l0_s3_p : SPat := ⟨[.sliceV 0 0 0 1 true, .sliceV 1 0 0 1 true, .undef, .undef, .undef, .int .i64] ++ List.replicate 20 .undef, [[.vec .i64], [.vec .i64]]⟩
def w_likeInts_l0_s3_o0 : SPat := ⟨[.undef, .undef, .undef, .undef, .boolC false] ++ List.replicate 21 .undef, [[.vec .i64], [.vec .i64]]⟩
def w_likeInts_l0_s3_o1 : SPat := ⟨[] ++ List.replicate 26 .undef, [[.vec .i64], [.vec .i64]]⟩
theorem w_likeInts_l0_s3_round {α : Type} (N : Nat) (a_n : Nat) (a_l : Nat) (a_c : Nat) (b_n : Nat) (b_l : Nat) (b_c : Nat) (i : Int) (h0 : List Int) (h1 : List Int) (kn : St -> Option α) (K : AExit -> St -> Option α) :
    roundK Try.prog (E_w_rows5_s2 α N) 1 2 76 Try.f76 4 2 (buildS w_likeInts_l0_s3_p [.n a_n, .n a_l, .n a_c, .n b_n, .n b_l, .n b_c, .i i, .l h0, .l h1]) kn K = w_likeInts_l0_s3_s none a_n a_l a_c b_n b_l b_c h0 h1 i (fun i => kn (buildS w_likeInts_l0_s3_p [.n a_n, .n a_l, .n a_c, .n b_n, .n b_l, .n b_c, .i i, .l h0, .l h1])) (K .ret (buildS w_likeInts_l0_s3_o0 [.l h0, .l h1])) (K (.exit 0) (buildS w_likeInts_l0_s3_o1 [.l h0, .l h1])) := by kernel_rfl
theorem w_likeInts_l0_s3_loop {α : Type} (N : Nat) (a_n : Nat) (a_l : Nat) (a_c : Nat) (b_n : Nat) (b_l : Nat) (b_c : Nat) (h0 : List Int) (h1 : List Int) (K : AExit -> St -> Option α) : ∀ (m : Nat) (i : Int),
    loopN (trimSt ((E_w_rows5_s2 α N).ann 76 4).head ((E_w_rows5_s2 α N).ann 76 4).grow 2) (bodyK Try.prog (E_w_rows5_s2 α N) 1 2 76 Try.f76 4) m (buildS w_likeInts_l0_s3_p [.n a_n, .n a_l, .n a_c, .n b_n, .n b_l, .n b_c, .i i, .l h0, .l h1]) (leaveLoop ((E_w_rows5_s2 α N).ann 76 4) 2 K) = w_likeInts_l0_s3 none a_n a_l a_c b_n b_l b_c h0 h1 m i (K .ret (buildS w_likeInts_l0_s3_o0 [.l h0, .l h1])) (K (.exit 0) (buildS w_likeInts_l0_s3_o1 [.l h0, .l h1])) := by
  intro m
  induction m with
  | zero => intros; rfl
  | succ m ih =>
    intro i
    rw [loopN_round]
    refine (w_likeInts_l0_s3_round N a_n a_l a_c b_n b_l b_c i h0 h1 _ K).trans ?_
    simp only [ih]
    rfl
def E_w_likeInts_l0_s3 (α : Type) (N : Nat) : Env α := (E_w_rows5_s2 α N).addLoop2 76 4 (loopSum2 ((E_w_rows5_s2 α N).ann 76 4) 2 w_likeInts_l0_s3_p (fun l K => match l with
    | [.n a_n, .n a_l, .n a_c, .n b_n, .n b_l, .n b_c, .i i, .l h0, .l h1] => w_likeInts_l0_s3 none a_n a_l a_c b_n b_l b_c h0 h1 N i (K .ret (buildS w_likeInts_l0_s3_o0 [.l h0, .l h1])) (K (.exit 0) (buildS w_likeInts_l0_s3_o1 [.l h0, .l h1]))
    | _ => none) ((E_w_rows5_s2 α N).ls 76 4))
theorem E_w_likeInts_l0_s3_ok {α : Type} (N : Nat) : EnvOk Try.prog (E_w_likeInts_l0_s3 α N) := (E_w_rows5_s2_ok N).addLoop2 Try.func76 (by kernel_rfl) (loopSum_ok prog_mixed prog_names (E_w_rows5_s2_ok N) Try.func76 (by kernel_rfl) (d := 1) (ro := 2) fun l K r h => by
  split at h
  · exact (w_likeInts_l0_s3_loop N _ _ _ _ _ _ _ _ K N _).trans h
  · cases h)
def w_likeInts_s3_a : SPat := ⟨[.sliceV 0 0 0 1 true, .sliceV 1 0 0 1 true], [[.vec .i64], [.vec .i64]]⟩
def w_likeInts_s3_r0 : SPat := ⟨[.bool], [[.vec .i64], [.vec .i64]]⟩
theorem w_likeInts_s3_run {α : Type} (N : Nat) (a_n : Nat) (a_l : Nat) (a_c : Nat) (b_n : Nat) (b_l : Nat) (b_c : Nat) (h0 : List Int) (h1 : List Int) (K : AV -> Heap -> Option α) :
    callK Try.prog (E_w_likeInts_l0_s3 α N) 1 76 2 (buildS w_likeInts_s3_a [.n a_n, .n a_l, .n a_c, .n b_n, .n b_l, .n b_c, .l h0, .l h1]).t (buildS w_likeInts_s3_a [.n a_n, .n a_l, .n a_c, .n b_n, .n b_l, .n b_c, .l h0, .l h1]).h K = w_likeInts_s3 none N a_n a_l a_c b_n b_l b_c h0 h1 (fun r__ => retK (buildS w_likeInts_s3_r0 [.b r__, .l h0, .l h1]) K) := by kernel_rfl
def E_w_likeInts_s3 (α : Type) (N : Nat) : Env α := (E_w_likeInts_l0_s3 α N).addFun 76 true 2 w_likeInts_s3_a (fun l K => match l with
    | [.n a_n, .n a_l, .n a_c, .n b_n, .n b_l, .n b_c, .l h0, .l h1] => w_likeInts_s3 none N a_n a_l a_c b_n b_l b_c h0 h1 (fun r__ => retK (buildS w_likeInts_s3_r0 [.b r__, .l h0, .l h1]) K)
    | _ => none)
theorem E_w_likeInts_s3_ok {α : Type} (N : Nat) : EnvOk Try.prog (E_w_likeInts_s3 α N) := (E_w_likeInts_l0_s3_ok N).addFun prog_mixed prog_names (d := 1) fun l K r h => by
  split at h
  · exact (w_likeInts_s3_run N _ _ _ _ _ _ _ _ K).trans h
  · cases h
def i_CountCusps_1_a : SPat := ⟨[.agg [.vals [.int .i64], .ints .u8 8, .ints .u8 8]], []⟩
def i_CountCusps_1_r0 : SPat := ⟨[.int .i64], []⟩
theorem i_CountCusps_1_run {α : Type} (N : Nat) (g_0 : Int) (g_1 : NI) (g_2 : NI) (K : AV -> Heap -> Option α) :
    callK Try.prog (E_w_likeInts_s3 α N) 1 141 0 (buildS i_CountCusps_1_a [.i g_0, .f g_1, .f g_2]).t (buildS i_CountCusps_1_a [.i g_0, .f g_1, .f g_2]).h K = i_CountCusps_1 none N g_0 g_1 g_2 (fun r__ => retK (buildS i_CountCusps_1_r0 [.i r__]) K) := by kernel_rfl
def E_i_CountCusps_1 (α : Type) (N : Nat) : Env α := (E_w_likeInts_s3 α N).addFun 141 true 0 i_CountCusps_1_a (fun l K => match l with
    | [.i g_0, .f g_1, .f g_2] => i_CountCusps_1 none N g_0 g_1 g_2 (fun r__ => retK (buildS i_CountCusps_1_r0 [.i r__]) K)
    | _ => none)
theorem E_i_CountCusps_1_ok {α : Type} (N : Nat) : EnvOk Try.prog (E_i_CountCusps_1 α N) := (E_w_likeInts_s3_ok N).addFun prog_mixed prog_names (d := 1) fun l K r h => by
  split at h
  · exact (i_CountCusps_1_run N _ _ _ K).trans h
  · cases h
def i_whole_int64_v1_a : SPat := ⟨[.agg [.vals [.int .i64], .ints .u8 8, .ints .u8 8], .func 141 []], []⟩
def i_whole_int64_v1_r0 : SPat := ⟨[.tuple [.int .i64, .int .i64]], []⟩
theorem i_whole_int64_v1_run {α : Type} (N : Nat) (g_0 : Int) (g_1 : NI) (g_2 : NI) (K : AV -> Heap -> Option α) :
    callK Try.prog (E_i_CountCusps_1 α N) 1 136 0 (buildS i_whole_int64_v1_a [.i g_0, .f g_1, .f g_2]).t (buildS i_whole_int64_v1_a [.i g_0, .f g_1, .f g_2]).h K = i_whole_int64_v1 none N g_0 g_1 g_2 (fun r_0_ r_1_ => retK (buildS i_whole_int64_v1_r0 [.i r_0_, .i r_1_]) K) := by kernel_rfl
def E_i_whole_int64_v1 (α : Type) (N : Nat) : Env α := (E_i_CountCusps_1 α N).addFun 136 true 0 i_whole_int64_v1_a (fun l K => match l with
    | [.i g_0, .f g_1, .f g_2] => i_whole_int64_v1 none N g_0 g_1 g_2 (fun r_0_ r_1_ => retK (buildS i_whole_int64_v1_r0 [.i r_0_, .i r_1_]) K)
    | _ => none)
theorem E_i_whole_int64_v1_ok {α : Type} (N : Nat) : EnvOk Try.prog (E_i_whole_int64_v1 α N) := (E_i_CountCusps_1_ok N).addFun prog_mixed prog_names (d := 1) fun l K r h => by
  split at h
  · exact (i_whole_int64_v1_run N _ _ _ K).trans h
  · cases h
def i_CountCusps_a : SPat := ⟨[.agg [.vals [.int .i64], .ints .u8 8, .ints .u8 8]], []⟩
def i_CountCusps_r0 : SPat := ⟨[.tuple [.int .i64, .int .i64]], []⟩
theorem i_CountCusps_run {α : Type} (N : Nat) (g_0 : Int) (g_1 : NI) (g_2 : NI) (K : AV -> Heap -> Option α) :
    callK Try.prog (E_i_whole_int64_v1 α N) 1 50 0 (buildS i_CountCusps_a [.i g_0, .f g_1, .f g_2]).t (buildS i_CountCusps_a [.i g_0, .f g_1, .f g_2]).h K = i_CountCusps none N g_0 g_1 g_2 (fun r_0_ r_1_ => retK (buildS i_CountCusps_r0 [.i r_0_, .i r_1_]) K) := by kernel_rfl
def E_i_CountCusps (α : Type) (N : Nat) : Env α := (E_i_whole_int64_v1 α N).addFun 50 true 0 i_CountCusps_a (fun l K => match l with
    | [.i g_0, .f g_1, .f g_2] => i_CountCusps none N g_0 g_1 g_2 (fun r_0_ r_1_ => retK (buildS i_CountCusps_r0 [.i r_0_, .i r_1_]) K)
    | _ => none)
theorem E_i_CountCusps_ok {α : Type} (N : Nat) : EnvOk Try.prog (E_i_CountCusps α N) := (E_i_whole_int64_v1_ok N).addFun prog_mixed prog_names (d := 1) fun l K r h => by
  split at h
  · exact (i_CountCusps_run N _ _ _ K).trans h
  · cases h
def i_RotationOf_1_a : SPat := ⟨[.agg [.vals [.int .i64], .ints .u8 8, .ints .u8 8]], []⟩
def i_RotationOf_1_r0 : SPat := ⟨[.int .i64], []⟩
theorem i_RotationOf_1_run {α : Type} (N : Nat) (g_0 : Int) (g_1 : NI) (g_2 : NI) (K : AV -> Heap -> Option α) :
    callK Try.prog (E_i_CountCusps α N) 1 140 0 (buildS i_RotationOf_1_a [.i g_0, .f g_1, .f g_2]).t (buildS i_RotationOf_1_a [.i g_0, .f g_1, .f g_2]).h K = i_RotationOf_1 none N g_0 g_1 g_2 (fun r__ => retK (buildS i_RotationOf_1_r0 [.i r__]) K) := by kernel_rfl
def E_i_RotationOf_1 (α : Type) (N : Nat) : Env α := (E_i_CountCusps α N).addFun 140 true 0 i_RotationOf_1_a (fun l K => match l with
    | [.i g_0, .f g_1, .f g_2] => i_RotationOf_1 none N g_0 g_1 g_2 (fun r__ => retK (buildS i_RotationOf_1_r0 [.i r__]) K)
    | _ => none)
theorem E_i_RotationOf_1_ok {α : Type} (N : Nat) : EnvOk Try.prog (E_i_RotationOf_1 α N) := (E_i_CountCusps_ok N).addFun prog_mixed prog_names (d := 1) fun l K r h => by
  split at h
  · exact (i_RotationOf_1_run N _ _ _ K).trans h
  · cases h
def i_whole_int64_v1_s2_a : SPat := ⟨[.agg [.vals [.int .i64], .ints .u8 8, .ints .u8 8], .func 140 []], []⟩
def i_whole_int64_v1_s2_r0 : SPat := ⟨[.tuple [.int .i64, .int .i64]], []⟩
theorem i_whole_int64_v1_s2_run {α : Type} (N : Nat) (g_0 : Int) (g_1 : NI) (g_2 : NI) (K : AV -> Heap -> Option α) :
    callK Try.prog (E_i_RotationOf_1 α N) 1 136 0 (buildS i_whole_int64_v1_s2_a [.i g_0, .f g_1, .f g_2]).t (buildS i_whole_int64_v1_s2_a [.i g_0, .f g_1, .f g_2]).h K = i_whole_int64_v1_s2 none N g_0 g_1 g_2 (fun r_0_ r_1_ => retK (buildS i_whole_int64_v1_s2_r0 [.i r_0_, .i r_1_]) K) := by kernel_rfl
def E_i_whole_int64_v1_s2 (α : Type) (N : Nat) : Env α := (E_i_RotationOf_1 α N).addFun 136 true 0 i_whole_int64_v1_s2_a (fun l K => match l with
    | [.i g_0, .f g_1, .f g_2] => i_whole_int64_v1_s2 none N g_0 g_1 g_2 (fun r_0_ r_1_ => retK (buildS i_whole_int64_v1_s2_r0 [.i r_0_, .i r_1_]) K)
    | _ => none)
theorem E_i_whole_int64_v1_s2_ok {α : Type} (N : Nat) : EnvOk Try.prog (E_i_whole_int64_v1_s2 α N) := (E_i_RotationOf_1_ok N).addFun prog_mixed prog_names (d := 1) fun l K r h => by
  split at h
  · exact (i_whole_int64_v1_s2_run N _ _ _ K).trans h
  · cases h
def i_RotationOf_a : SPat := ⟨[.agg [.vals [.int .i64], .ints .u8 8, .ints .u8 8]], []⟩
def i_RotationOf_r0 : SPat := ⟨[.tuple [.int .i64, .int .i64]], []⟩
theorem i_RotationOf_run {α : Type} (N : Nat) (g_0 : Int) (g_1 : NI) (g_2 : NI) (K : AV -> Heap -> Option α) :
    callK Try.prog (E_i_whole_int64_v1_s2 α N) 1 48 0 (buildS i_RotationOf_a [.i g_0, .f g_1, .f g_2]).t (buildS i_RotationOf_a [.i g_0, .f g_1, .f g_2]).h K = i_RotationOf none N g_0 g_1 g_2 (fun r_0_ r_1_ => retK (buildS i_RotationOf_r0 [.i r_0_, .i r_1_]) K) := by kernel_rfl
def E_i_RotationOf (α : Type) (N : Nat) : Env α := (E_i_whole_int64_v1_s2 α N).addFun 48 true 0 i_RotationOf_a (fun l K => match l with
    | [.i g_0, .f g_1, .f g_2] => i_RotationOf none N g_0 g_1 g_2 (fun r_0_ r_1_ => retK (buildS i_RotationOf_r0 [.i r_0_, .i r_1_]) K)
    | _ => none)
theorem E_i_RotationOf_ok {α : Type} (N : Nat) : EnvOk Try.prog (E_i_RotationOf α N) := (E_i_whole_int64_v1_s2_ok N).addFun prog_mixed prog_names (d := 1) fun l K r h => by
  split at h
  · exact (i_RotationOf_run N _ _ _ K).trans h
  · cases h
def A_w_FnCorners_l2 (α : Type) (N : Nat) : Env α := (E_i_RotationOf α N).addAnn 8 37 { head := [3, 4, 8, 10, 26, 28, 29, 30, 31, 32, 33], grow := [], out := [3, 4, 8, 26, 28, 29, 30, 31, 32], ret := [2] }
theorem A_w_FnCorners_l2_ok {α : Type} (N : Nat) : EnvOk Try.prog (A_w_FnCorners_l2 α N) := (E_i_RotationOf_ok N).addAnn
def w_FnCorners_l0_s3_p : SPat := ⟨[.undef, .undef, .undef, .ptr ⟨⟨1, 0⟩, 0, 0, 1⟩, .sliceV 2 0 0 4 false, .intC .i64 0, .sliceV 3 0 0 4 false, .undef, .ptr ⟨⟨4, 0⟩, 0, 0, 4⟩, .int .i64] ++ List.replicate 259 .undef, [[.intsV .u8], [.vals [.int .i64], .ints .u8 8, .ints .u8 8], [.recs [some IntKind.i64, some IntKind.i64, some IntKind.i64, none]], [.recs [some IntKind.i64, some IntKind.i64, some IntKind.i64, none]], [.ints .i64 4]]⟩
def w_FnCorners_l0_s3_o0 : SPat := ⟨[.undef, .undef, .boolC false] ++ List.replicate 266 .undef, [[.intsV .u8], [.vals [.int .i64], .ints .u8 8, .ints .u8 8], [.recs [some IntKind.i64, some IntKind.i64, some IntKind.i64, none]], [.recs [some IntKind.i64, some IntKind.i64, some IntKind.i64, none]], [.ints .i64 4]]⟩
def w_FnCorners_l0_s3_o1 : SPat := ⟨[.undef, .undef, .undef, .ptr ⟨⟨1, 0⟩, 0, 0, 1⟩, .sliceV 2 0 0 4 false, .intC .i64 0, .undef, .undef, .ptr ⟨⟨4, 0⟩, 0, 0, 4⟩] ++ List.replicate 260 .undef, [[.intsV .u8], [.vals [.int .i64], .ints .u8 8, .ints .u8 8], [.recs [some IntKind.i64, some IntKind.i64, some IntKind.i64, none]], [.recs [some IntKind.i64, some IntKind.i64, some IntKind.i64, none]], [.ints .i64 4]]⟩
theorem w_FnCorners_l0_s3_round {α : Type} (N : Nat) (t4_n : Nat) (t4_l : Nat) (t4_c : Nat) (t6_n : Nat) (t6_l : Nat) (t6_c : Nat) (t9 : Int) (h0_n : Nat) (h0 : NI) (h1_0 : Int) (h1_1 : NI) (h1_2 : NI) (h2 : List Int) (h3 : List Int) (h4 : NI) (kn : St -> Option α) (K : AExit -> St -> Option α) :
    roundK Try.prog (A_w_FnCorners_l2 α N) 1 1 8 Try.f8 10 5 (buildS w_FnCorners_l0_s3_p [.n t4_n, .n t4_l, .n t4_c, .n t6_n, .n t6_l, .n t6_c, .i t9, .n h0_n, .f h0, .i h1_0, .f h1_1, .f h1_2, .l h2, .l h3, .f h4]) kn K = w_FnCorners_l0_s3_s none t4_n t4_l t4_c t6_n t6_l t6_c h0_n h0 h1_0 h1_1 h1_2 h2 h3 t9 h4 (fun t9 h4 => kn (buildS w_FnCorners_l0_s3_p [.n t4_n, .n t4_l, .n t4_c, .n t6_n, .n t6_l, .n t6_c, .i t9, .n h0_n, .f h0, .i h1_0, .f h1_1, .f h1_2, .l h2, .l h3, .f h4])) (fun h4_ => K .ret (buildS w_FnCorners_l0_s3_o0 [.n h0_n, .f h0, .i h1_0, .f h1_1, .f h1_2, .l h2, .l h3, .f h4_])) (fun h4_ => K (.exit 0) (buildS w_FnCorners_l0_s3_o1 [.n t4_n, .n t4_l, .n t4_c, .n h0_n, .f h0, .i h1_0, .f h1_1, .f h1_2, .l h2, .l h3, .f h4_])) := by kernel_rfl
theorem w_FnCorners_l0_s3_loop {α : Type} (N : Nat) (t4_n : Nat) (t4_l : Nat) (t4_c : Nat) (t6_n : Nat) (t6_l : Nat) (t6_c : Nat) (h0_n : Nat) (h0 : NI) (h1_0 : Int) (h1_1 : NI) (h1_2 : NI) (h2 : List Int) (h3 : List Int) (K : AExit -> St -> Option α) : ∀ (m : Nat) (t9 : Int) (h4 : NI),
    loopN (trimSt ((A_w_FnCorners_l2 α N).ann 8 10).head ((A_w_FnCorners_l2 α N).ann 8 10).grow 5) (bodyK Try.prog (A_w_FnCorners_l2 α N) 1 1 8 Try.f8 10) m (buildS w_FnCorners_l0_s3_p [.n t4_n, .n t4_l, .n t4_c, .n t6_n, .n t6_l, .n t6_c, .i t9, .n h0_n, .f h0, .i h1_0, .f h1_1, .f h1_2, .l h2, .l h3, .f h4]) (leaveLoop ((A_w_FnCorners_l2 α N).ann 8 10) 5 K) = w_FnCorners_l0_s3 none t4_n t4_l t4_c t6_n t6_l t6_c h0_n h0 h1_0 h1_1 h1_2 h2 h3 m t9 h4 (fun h4_ => K .ret (buildS w_FnCorners_l0_s3_o0 [.n h0_n, .f h0, .i h1_0, .f h1_1, .f h1_2, .l h2, .l h3, .f h4_])) (fun h4_ => K (.exit 0) (buildS w_FnCorners_l0_s3_o1 [.n t4_n, .n t4_l, .n t4_c, .n h0_n, .f h0, .i h1_0, .f h1_1, .f h1_2, .l h2, .l h3, .f h4_])) := by
  intro m
  induction m with
  | zero => intros; rfl
  | succ m ih =>
    intro t9 h4
    rw [loopN_round]
    refine (w_FnCorners_l0_s3_round N t4_n t4_l t4_c t6_n t6_l t6_c t9 h0_n h0 h1_0 h1_1 h1_2 h2 h3 h4 _ K).trans ?_
    simp only [ih]
    rfl
def E_w_FnCorners_l0_s3 (α : Type) (N : Nat) : Env α := (A_w_FnCorners_l2 α N).addLoop2 8 10 (loopSum2 ((A_w_FnCorners_l2 α N).ann 8 10) 1 w_FnCorners_l0_s3_p (fun l K => match l with
    | [.n t4_n, .n t4_l, .n t4_c, .n t6_n, .n t6_l, .n t6_c, .i t9, .n h0_n, .f h0, .i h1_0, .f h1_1, .f h1_2, .l h2, .l h3, .f h4] => w_FnCorners_l0_s3 none t4_n t4_l t4_c t6_n t6_l t6_c h0_n h0 h1_0 h1_1 h1_2 h2 h3 N t9 h4 (fun h4_ => K .ret (buildS w_FnCorners_l0_s3_o0 [.n h0_n, .f h0, .i h1_0, .f h1_1, .f h1_2, .l h2, .l h3, .f h4_])) (fun h4_ => K (.exit 0) (buildS w_FnCorners_l0_s3_o1 [.n t4_n, .n t4_l, .n t4_c, .n h0_n, .f h0, .i h1_0, .f h1_1, .f h1_2, .l h2, .l h3, .f h4_]))
    | _ => none) ((A_w_FnCorners_l2 α N).ls 8 10))
theorem E_w_FnCorners_l0_s3_ok {α : Type} (N : Nat) : EnvOk Try.prog (E_w_FnCorners_l0_s3 α N) := (A_w_FnCorners_l2_ok N).addLoop2 Try.func8 (by kernel_rfl) (loopSum_ok prog_mixed prog_names (A_w_FnCorners_l2_ok N) Try.func8 (by kernel_rfl) (d := 1) (ro := 1) fun l K r h => by
  split at h
  · exact (w_FnCorners_l0_s3_loop N _ _ _ _ _ _ _ _ _ _ _ _ _ K N _ _).trans h
  · cases h)
end Go.AM
