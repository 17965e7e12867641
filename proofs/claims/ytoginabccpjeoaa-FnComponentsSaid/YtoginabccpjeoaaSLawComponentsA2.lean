/- A part of a proof about the given program: an abstract machine, what the given functions come to, and plain laws. -/
import Derived.Test.YtoginabccpjeoaaSLawComponentsA
set_option linter.unusedVariables false
set_option linter.unusedSimpArgs false
set_option maxRecDepth 100000
set_option maxHeartbeats 4000000
namespace Go.AM
open Go.Proofs
def q0h8 : SPat := ⟨[.int .i64, .int .i64, .undef, .undef, .ptr ⟨⟨0, 0⟩, 0, 0, 1⟩, .undef, .ptr ⟨⟨1, 0⟩, 0, 0, 1⟩, .int .i64] ++ List.replicate 39 .undef, [[.vals [.int .i64], .ints .u8 8, .ints .u8 8], [.vals [.int .i64], .ints .u8 8, .ints .u8 8]]⟩
def q0h9 : SPat := ⟨[.undef, .undef, .undef, .undef, .ptr ⟨⟨0, 0⟩, 0, 0, 1⟩, .undef, .ptr ⟨⟨1, 0⟩, 0, 0, 1⟩] ++ List.replicate 40 .undef, [[.vals [.int .i64], .ints .u8 8, .ints .u8 8], [.vals [.int .i64], .ints .u8 8, .ints .u8 8]]⟩
theorem q0ha {α : Type} (N : Nat) (p q i h0_0 : Int) (h0_1 h0_2 : NI) (h1_0 : Int) (h1_1 h1_2 : NI) (kn : St -> Option α) (K : AExit -> St -> Option α) :
    roundK Try.prog (q0h6 α N) 1 0 33 Try.f33 5 2 (buildS q0h8 [.i p, .i q, .i i, .i h0_0, .f h0_1, .f h0_2, .i h1_0, .f h1_1, .f h1_2]) kn K = q036 none p q h0_0 h0_1 h0_2 h1_0 i h1_1 h1_2 (fun i h1_1 h1_2 => kn (buildS q0h8 [.i p, .i q, .i i, .i h0_0, .f h0_1, .f h0_2, .i h1_0, .f h1_1, .f h1_2])) (fun h1_1_ h1_2_ => K (.exit 0) (buildS q0h9 [.i h0_0, .f h0_1, .f h0_2, .i h1_0, .f h1_1_, .f h1_2_])) := by kernel_rfl
theorem q0hb {α : Type} (N : Nat) (p q h0_0 : Int) (h0_1 h0_2 : NI) (h1_0 : Int) (K : AExit -> St -> Option α) : ∀ (m : Nat) (i : Int) (h1_1 h1_2 : NI),
    loopN (trimSt ((q0h6 α N).ann 33 5).head ((q0h6 α N).ann 33 5).grow 2) (bodyK Try.prog (q0h6 α N) 1 0 33 Try.f33 5) m (buildS q0h8 [.i p, .i q, .i i, .i h0_0, .f h0_1, .f h0_2, .i h1_0, .f h1_1, .f h1_2]) (leaveLoop ((q0h6 α N).ann 33 5) 2 K) = q037 none p q h0_0 h0_1 h0_2 h1_0 m i h1_1 h1_2 (fun h1_1_ h1_2_ => K (.exit 0) (buildS q0h9 [.i h0_0, .f h0_1, .f h0_2, .i h1_0, .f h1_1_, .f h1_2_])) := by
  intro m
  induction m with
  | zero => intros; rfl
  | succ m ih =>
    intro i h1_1 h1_2
    rw [loopN_round]
    refine (q0ha N p q i h0_0 h0_1 h0_2 h1_0 h1_1 h1_2 _ K).trans ?_
    simp only [ih]
    rfl
def q0hc (α : Type) (N : Nat) : Env α := (q0h6 α N).addLoop2 33 5 (loopSum2 ((q0h6 α N).ann 33 5) 0 q0h8 (fun l K => match l with
    | [.i p, .i q, .i i, .i h0_0, .f h0_1, .f h0_2, .i h1_0, .f h1_1, .f h1_2] => q037 none p q h0_0 h0_1 h0_2 h1_0 N i h1_1 h1_2 (fun h1_1_ h1_2_ => K (.exit 0) (buildS q0h9 [.i h0_0, .f h0_1, .f h0_2, .i h1_0, .f h1_1_, .f h1_2_]))
    | _ => none) ((q0h6 α N).ls 33 5))
theorem q0hd {α : Type} (N : Nat) : EnvOk Try.prog (q0hc α N) := (q0h7 N).addLoop2 Try.func33 (by kernel_rfl) (loopSum_ok q03v q03w (q0h7 N) Try.func33 (by kernel_rfl) (d := 1) (ro := 0) fun l K r h => by
  split at h
  · exact (q0hb N _ _ _ _ _ _ K N _ _ _).trans h
  · cases h)
def q0he : SPat := ⟨[.int .i64, .int .i64], []⟩
def q0hf : SPat := ⟨[.tuple [.agg [.vals [.int .i64], .ints .u8 8, .ints .u8 8], .int .i64]], []⟩
theorem q0hg {α : Type} (N : Nat) (p q : Int) (K : AV -> Heap -> Option α) :
    callK Try.prog (q0hc α N) 1 33 0 (buildS q0he [.i p, .i q]).t (buildS q0he [.i p, .i q]).h K = q038 none N p q (fun r_0_0_ r_0_1_ r_0_2_ r_1_ => retK (buildS q0hf [.i r_0_0_, .f r_0_1_, .f r_0_2_, .i r_1_]) K) := by kernel_rfl
def q0hh (α : Type) (N : Nat) : Env α := (q0hc α N).addFun 33 true 0 q0he (fun l K => match l with
    | [.i p, .i q] => q038 none N p q (fun r_0_0_ r_0_1_ r_0_2_ r_1_ => retK (buildS q0hf [.i r_0_0_, .f r_0_1_, .f r_0_2_, .i r_1_]) K)
    | _ => none)
theorem q0hi {α : Type} (N : Nat) : EnvOk Try.prog (q0hh α N) := (q0hd N).addFun q03v q03w (d := 1) fun l K r h => by
  split at h
  · exact (q0hg N _ _ K).trans h
  · cases h
def q0hj (α : Type) (N : Nat) : Env α := (q0hh α N).addAnn 4 58 { head := [52, 56, 57], grow := [], out := [52, 56], ret := [2] }
theorem q0hk {α : Type} (N : Nat) : EnvOk Try.prog (q0hj α N) := (q0hi N).addAnn
def q0hl (α : Type) (N : Nat) : Env α := (q0hj α N).addAnn 76 4 { head := [0, 1, 5], grow := [], out := [], ret := [4] }
theorem q0hm {α : Type} (N : Nat) : EnvOk Try.prog (q0hl α N) := (q0hk N).addAnn
def q0hn : SPat := ⟨[.sliceR 0 1 false, .sliceR 1 1 false, .undef, .undef, .undef, .int .i64] ++ List.replicate 20 .undef, [[.pool .i64], [.pool .i64]]⟩
def q0ho : SPat := ⟨[.undef, .undef, .undef, .undef, .boolC false] ++ List.replicate 21 .undef, [[.pool .i64], [.pool .i64]]⟩
def q0hp : SPat := ⟨[] ++ List.replicate 26 .undef, [[.pool .i64], [.pool .i64]]⟩
theorem q0hq {α : Type} (N a_r a_o a_n a_l a_c b_r b_o b_n b_l b_c : Nat) (i : Int) (h0 h1 : List (List Int)) (kn : St -> Option α) (K : AExit -> St -> Option α) :
    roundK Try.prog (q0hl α N) 1 2 76 Try.f76 4 2 (buildS q0hn [.n a_r, .n a_o, .n a_n, .n a_l, .n a_c, .n b_r, .n b_o, .n b_n, .n b_l, .n b_c, .i i, .r h0, .r h1]) kn K = q02f none a_r a_o a_n a_l a_c b_r b_o b_n b_l b_c h0 h1 i (fun i => kn (buildS q0hn [.n a_r, .n a_o, .n a_n, .n a_l, .n a_c, .n b_r, .n b_o, .n b_n, .n b_l, .n b_c, .i i, .r h0, .r h1])) (K .ret (buildS q0ho [.r h0, .r h1])) (K (.exit 0) (buildS q0hp [.r h0, .r h1])) := by kernel_rfl
theorem q0hr {α : Type} (N a_r a_o a_n a_l a_c b_r b_o b_n b_l b_c : Nat) (h0 h1 : List (List Int)) (K : AExit -> St -> Option α) : ∀ (m : Nat) (i : Int),
    loopN (trimSt ((q0hl α N).ann 76 4).head ((q0hl α N).ann 76 4).grow 2) (bodyK Try.prog (q0hl α N) 1 2 76 Try.f76 4) m (buildS q0hn [.n a_r, .n a_o, .n a_n, .n a_l, .n a_c, .n b_r, .n b_o, .n b_n, .n b_l, .n b_c, .i i, .r h0, .r h1]) (leaveLoop ((q0hl α N).ann 76 4) 2 K) = q02g none a_r a_o a_n a_l a_c b_r b_o b_n b_l b_c h0 h1 m i (K .ret (buildS q0ho [.r h0, .r h1])) (K (.exit 0) (buildS q0hp [.r h0, .r h1])) := by
  intro m
  induction m with
  | zero => intros; rfl
  | succ m ih =>
    intro i
    rw [loopN_round]
    refine (q0hq N a_r a_o a_n a_l a_c b_r b_o b_n b_l b_c i h0 h1 _ K).trans ?_
    simp only [ih]
    rfl
def q0hs (α : Type) (N : Nat) : Env α := (q0hl α N).addLoop2 76 4 (loopSum2 ((q0hl α N).ann 76 4) 2 q0hn (fun l K => match l with
    | [.n a_r, .n a_o, .n a_n, .n a_l, .n a_c, .n b_r, .n b_o, .n b_n, .n b_l, .n b_c, .i i, .r h0, .r h1] => q02g none a_r a_o a_n a_l a_c b_r b_o b_n b_l b_c h0 h1 N i (K .ret (buildS q0ho [.r h0, .r h1])) (K (.exit 0) (buildS q0hp [.r h0, .r h1]))
    | _ => none) ((q0hl α N).ls 76 4))
theorem q0ht {α : Type} (N : Nat) : EnvOk Try.prog (q0hs α N) := (q0hm N).addLoop2 Try.func76 (by kernel_rfl) (loopSum_ok q03v q03w (q0hm N) Try.func76 (by kernel_rfl) (d := 1) (ro := 2) fun l K r h => by
  split at h
  · exact (q0hr N _ _ _ _ _ _ _ _ _ _ _ _ K N _).trans h
  · cases h)
def q0hu : SPat := ⟨[.sliceR 0 1 false, .sliceR 1 1 false], [[.pool .i64], [.pool .i64]]⟩
def q0hv : SPat := ⟨[.bool], [[.pool .i64], [.pool .i64]]⟩
theorem q0hw {α : Type} (N a_r a_o a_n a_l a_c b_r b_o b_n b_l b_c : Nat) (h0 h1 : List (List Int)) (K : AV -> Heap -> Option α) :
    callK Try.prog (q0hs α N) 1 76 2 (buildS q0hu [.n a_r, .n a_o, .n a_n, .n a_l, .n a_c, .n b_r, .n b_o, .n b_n, .n b_l, .n b_c, .r h0, .r h1]).t (buildS q0hu [.n a_r, .n a_o, .n a_n, .n a_l, .n a_c, .n b_r, .n b_o, .n b_n, .n b_l, .n b_c, .r h0, .r h1]).h K = q02h none N a_r a_o a_n a_l a_c b_r b_o b_n b_l b_c h0 h1 (fun r__ => retK (buildS q0hv [.b r__, .r h0, .r h1]) K) := by kernel_rfl
def q0hx (α : Type) (N : Nat) : Env α := (q0hs α N).addFun 76 true 2 q0hu (fun l K => match l with
    | [.n a_r, .n a_o, .n a_n, .n a_l, .n a_c, .n b_r, .n b_o, .n b_n, .n b_l, .n b_c, .r h0, .r h1] => q02h none N a_r a_o a_n a_l a_c b_r b_o b_n b_l b_c h0 h1 (fun r__ => retK (buildS q0hv [.b r__, .r h0, .r h1]) K)
    | _ => none)
theorem q0hy {α : Type} (N : Nat) : EnvOk Try.prog (q0hx α N) := (q0ht N).addFun q03v q03w (d := 1) fun l K r h => by
  split at h
  · exact (q0hw N _ _ _ _ _ _ _ _ _ _ _ _ K).trans h
  · cases h
def q0hz : SPat := ⟨[.sliceV 0 0 0 1 true, .sliceV 1 0 0 1 false, .undef, .undef, .undef, .int .i64] ++ List.replicate 21 .undef, [[.hdr 2], [.hdr 3], [.pool .i64], [.pool .i64]]⟩
def q0i0 : SPat := ⟨[.undef, .undef, .undef, .undef, .boolC false] ++ List.replicate 22 .undef, [[.hdr 2], [.hdr 3], [.pool .i64], [.pool .i64]]⟩
def q0i1 : SPat := ⟨[] ++ List.replicate 27 .undef, [[.hdr 2], [.hdr 3], [.pool .i64], [.pool .i64]]⟩
theorem q0i2 {α : Type} (N a_n a_l a_c b_n b_l b_c : Nat) (i : Int) (h0 h1 : List (Nat × Nat)) (h2 h3 : List (List Int)) (kn : St -> Option α) (K : AExit -> St -> Option α) :
    roundK Try.prog (q0hx α N) 1 4 22 Try.f22 4 4 (buildS q0hz [.n a_n, .n a_l, .n a_c, .n b_n, .n b_l, .n b_c, .i i, .p h0, .p h1, .r h2, .r h3]) kn K = q03j none N a_n a_l a_c b_n b_l b_c h0 h1 h2 h3 i (fun i => kn (buildS q0hz [.n a_n, .n a_l, .n a_c, .n b_n, .n b_l, .n b_c, .i i, .p h0, .p h1, .r h2, .r h3])) (K .ret (buildS q0i0 [.p h0, .p h1, .r h2, .r h3])) (K (.exit 0) (buildS q0i1 [.p h0, .p h1, .r h2, .r h3])) := by kernel_rfl
theorem q0i3 {α : Type} (N a_n a_l a_c b_n b_l b_c : Nat) (h0 h1 : List (Nat × Nat)) (h2 h3 : List (List Int)) (K : AExit -> St -> Option α) : ∀ (m : Nat) (i : Int),
    loopN (trimSt ((q0hx α N).ann 22 4).head ((q0hx α N).ann 22 4).grow 4) (bodyK Try.prog (q0hx α N) 1 4 22 Try.f22 4) m (buildS q0hz [.n a_n, .n a_l, .n a_c, .n b_n, .n b_l, .n b_c, .i i, .p h0, .p h1, .r h2, .r h3]) (leaveLoop ((q0hx α N).ann 22 4) 4 K) = q03k none N a_n a_l a_c b_n b_l b_c h0 h1 h2 h3 m i (K .ret (buildS q0i0 [.p h0, .p h1, .r h2, .r h3])) (K (.exit 0) (buildS q0i1 [.p h0, .p h1, .r h2, .r h3])) := by
  intro m
  induction m with
  | zero => intros; rfl
  | succ m ih =>
    intro i
    rw [loopN_round]
    refine (q0i2 N a_n a_l a_c b_n b_l b_c i h0 h1 h2 h3 _ K).trans ?_
    simp only [ih]
    rfl
def q0i4 (α : Type) (N : Nat) : Env α := (q0hx α N).addLoop2 22 4 (loopSum2 ((q0hx α N).ann 22 4) 4 q0hz (fun l K => match l with
    | [.n a_n, .n a_l, .n a_c, .n b_n, .n b_l, .n b_c, .i i, .p h0, .p h1, .r h2, .r h3] => q03k none N a_n a_l a_c b_n b_l b_c h0 h1 h2 h3 N i (K .ret (buildS q0i0 [.p h0, .p h1, .r h2, .r h3])) (K (.exit 0) (buildS q0i1 [.p h0, .p h1, .r h2, .r h3]))
    | _ => none) ((q0hx α N).ls 22 4))
theorem q0i5 {α : Type} (N : Nat) : EnvOk Try.prog (q0i4 α N) := (q0hy N).addLoop2 Try.func22 (by kernel_rfl) (loopSum_ok q03v q03w (q0hy N) Try.func22 (by kernel_rfl) (d := 1) (ro := 4) fun l K r h => by
  split at h
  · exact (q0i3 N _ _ _ _ _ _ _ _ _ _ K N _).trans h
  · cases h)
def q0i6 : SPat := ⟨[.sliceV 0 0 0 1 true, .sliceV 1 0 0 1 false], [[.hdr 2], [.hdr 3], [.pool .i64], [.pool .i64]]⟩
def q0i7 : SPat := ⟨[.bool], [[.hdr 2], [.hdr 3], [.pool .i64], [.pool .i64]]⟩
theorem q0i8 {α : Type} (N a_n a_l a_c b_n b_l b_c : Nat) (h0 h1 : List (Nat × Nat)) (h2 h3 : List (List Int)) (K : AV -> Heap -> Option α) :
    callK Try.prog (q0i4 α N) 1 22 4 (buildS q0i6 [.n a_n, .n a_l, .n a_c, .n b_n, .n b_l, .n b_c, .p h0, .p h1, .r h2, .r h3]).t (buildS q0i6 [.n a_n, .n a_l, .n a_c, .n b_n, .n b_l, .n b_c, .p h0, .p h1, .r h2, .r h3]).h K = q03l none N a_n a_l a_c b_n b_l b_c h0 h1 h2 h3 (fun r__ => retK (buildS q0i7 [.b r__, .p h0, .p h1, .r h2, .r h3]) K) := by kernel_rfl
def q0i9 (α : Type) (N : Nat) : Env α := (q0i4 α N).addFun 22 true 4 q0i6 (fun l K => match l with
    | [.n a_n, .n a_l, .n a_c, .n b_n, .n b_l, .n b_c, .p h0, .p h1, .r h2, .r h3] => q03l none N a_n a_l a_c b_n b_l b_c h0 h1 h2 h3 (fun r__ => retK (buildS q0i7 [.b r__, .p h0, .p h1, .r h2, .r h3]) K)
    | _ => none)
theorem q0ia {α : Type} (N : Nat) : EnvOk Try.prog (q0i9 α N) := (q0i5 N).addFun q03v q03w (d := 1) fun l K r h => by
  split at h
  · exact (q0i8 N _ _ _ _ _ _ _ _ _ _ K).trans h
  · cases h
def q0ib (α : Type) (N : Nat) : Env α := (q0i9 α N).addAnn 4 13 { head := [0, 3, 4, 8, 12, 13, 14], grow := [], out := [0, 3, 4, 8, 12], ret := [2] }
theorem q0ic {α : Type} (N : Nat) : EnvOk Try.prog (q0ib α N) := (q0ia N).addAnn
def q0id (α : Type) (N : Nat) : Env α := (q0ib α N).addAnn 4 16 { head := [0, 3, 4, 8, 12, 13, 14, 15], grow := [], out := [0, 3, 4, 8, 12, 13, 14], ret := [2] }
theorem q0ie {α : Type} (N : Nat) : EnvOk Try.prog (q0id α N) := (q0ic N).addAnn
def q0if : SPat := ⟨[.sliceV 0 0 0 1 false, .undef, .undef, .ptr ⟨⟨1, 0⟩, 0, 0, 1⟩, .sliceV 2 0 0 1 true, .undef, .undef, .undef, .bool, .undef, .undef, .undef, .int .i64, .ptr ⟨⟨6, 0⟩, 0, 0, 8⟩, .int .i64, .int .i64] ++ List.replicate 372 .undef, [[.intsV .u8], [.vals [.int .i64], .ints .u8 8, .ints .u8 8], [.hdr 3], [.pool .i64], [.hdr 5], [.pool .i64], [.bools 8]]⟩
def q0ig : SPat := ⟨[.undef, .undef, .boolC false] ++ List.replicate 385 .undef, [[.intsV .u8], [.vals [.int .i64], .ints .u8 8, .ints .u8 8], [.hdr 3], [.pool .i64], [.hdr 5], [.pool .i64], [.bools 8]]⟩
def q0ih : SPat := ⟨[.sliceV 0 0 0 1 false, .undef, .undef, .ptr ⟨⟨1, 0⟩, 0, 0, 1⟩, .sliceV 2 0 0 1 true, .undef, .undef, .undef, .bool, .undef, .undef, .undef, .int .i64, .ptr ⟨⟨6, 0⟩, 0, 0, 8⟩, .int .i64] ++ List.replicate 373 .undef, [[.intsV .u8], [.vals [.int .i64], .ints .u8 8, .ints .u8 8], [.hdr 3], [.pool .i64], [.hdr 5], [.pool .i64], [.bools 8]]⟩
theorem q0ii {α : Type} (N code_n code_l code_c t4_n t4_l t4_c : Nat) (t8 : Bool) (t12 t14 t15 : Int) (h0_n : Nat) (h0 : NI) (h1_0 : Int) (h1_1 h1_2 : NI) (h2 : List (Nat × Nat)) (h3 : List (List Int)) (h4 : List (Nat × Nat)) (h5 : List (List Int)) (h6 : Nat -> Bool) (kn : St -> Option α) (K : AExit -> St -> Option α) :
    roundK Try.prog (q0id α N) 1 1 4 Try.f4 16 7 (buildS q0if [.n code_n, .n code_l, .n code_c, .n t4_n, .n t4_l, .n t4_c, .b t8, .i t12, .i t14, .i t15, .n h0_n, .f h0, .i h1_0, .f h1_1, .f h1_2, .p h2, .r h3, .p h4, .r h5, .g h6]) kn K = q03m none code_n code_l code_c t4_n t4_l t4_c t8 t14 h0_n h0 h1_0 h1_1 h1_2 h2 h3 h4 h5 t12 t15 h6 (fun t12 t15 h6 => kn (buildS q0if [.n code_n, .n code_l, .n code_c, .n t4_n, .n t4_l, .n t4_c, .b t8, .i t12, .i t14, .i t15, .n h0_n, .f h0, .i h1_0, .f h1_1, .f h1_2, .p h2, .r h3, .p h4, .r h5, .g h6])) (fun h6_ => K .ret (buildS q0ig [.n h0_n, .f h0, .i h1_0, .f h1_1, .f h1_2, .p h2, .r h3, .p h4, .r h5, .g h6_])) (fun t12_ h6_ => K (.exit 2) (buildS q0ih [.n code_n, .n code_l, .n code_c, .n t4_n, .n t4_l, .n t4_c, .b t8, .i t12_, .i t14, .n h0_n, .f h0, .i h1_0, .f h1_1, .f h1_2, .p h2, .r h3, .p h4, .r h5, .g h6_])) := by kernel_rfl
theorem q0ij {α : Type} (N code_n code_l code_c t4_n t4_l t4_c : Nat) (t8 : Bool) (t14 : Int) (h0_n : Nat) (h0 : NI) (h1_0 : Int) (h1_1 h1_2 : NI) (h2 : List (Nat × Nat)) (h3 : List (List Int)) (h4 : List (Nat × Nat)) (h5 : List (List Int)) (K : AExit -> St -> Option α) : ∀ (m : Nat) (t12 t15 : Int) (h6 : Nat -> Bool),
    loopN (trimSt ((q0id α N).ann 4 16).head ((q0id α N).ann 4 16).grow 7) (bodyK Try.prog (q0id α N) 1 1 4 Try.f4 16) m (buildS q0if [.n code_n, .n code_l, .n code_c, .n t4_n, .n t4_l, .n t4_c, .b t8, .i t12, .i t14, .i t15, .n h0_n, .f h0, .i h1_0, .f h1_1, .f h1_2, .p h2, .r h3, .p h4, .r h5, .g h6]) (leaveLoop ((q0id α N).ann 4 16) 7 K) = q03n none code_n code_l code_c t4_n t4_l t4_c t8 t14 h0_n h0 h1_0 h1_1 h1_2 h2 h3 h4 h5 m t12 t15 h6 (fun h6_ => K .ret (buildS q0ig [.n h0_n, .f h0, .i h1_0, .f h1_1, .f h1_2, .p h2, .r h3, .p h4, .r h5, .g h6_])) (fun t12_ h6_ => K (.exit 2) (buildS q0ih [.n code_n, .n code_l, .n code_c, .n t4_n, .n t4_l, .n t4_c, .b t8, .i t12_, .i t14, .n h0_n, .f h0, .i h1_0, .f h1_1, .f h1_2, .p h2, .r h3, .p h4, .r h5, .g h6_])) := by
  intro m
  induction m with
  | zero => intros; rfl
  | succ m ih =>
    intro t12 t15 h6
    rw [loopN_round]
    refine (q0ii N code_n code_l code_c t4_n t4_l t4_c t8 t12 t14 t15 h0_n h0 h1_0 h1_1 h1_2 h2 h3 h4 h5 h6 _ K).trans ?_
    simp only [ih]
    rfl
def q0ik (α : Type) (N : Nat) : Env α := (q0id α N).addLoop2 4 16 (loopSum2 ((q0id α N).ann 4 16) 1 q0if (fun l K => match l with
    | [.n code_n, .n code_l, .n code_c, .n t4_n, .n t4_l, .n t4_c, .b t8, .i t12, .i t14, .i t15, .n h0_n, .f h0, .i h1_0, .f h1_1, .f h1_2, .p h2, .r h3, .p h4, .r h5, .g h6] => q03n none code_n code_l code_c t4_n t4_l t4_c t8 t14 h0_n h0 h1_0 h1_1 h1_2 h2 h3 h4 h5 N t12 t15 h6 (fun h6_ => K .ret (buildS q0ig [.n h0_n, .f h0, .i h1_0, .f h1_1, .f h1_2, .p h2, .r h3, .p h4, .r h5, .g h6_])) (fun t12_ h6_ => K (.exit 2) (buildS q0ih [.n code_n, .n code_l, .n code_c, .n t4_n, .n t4_l, .n t4_c, .b t8, .i t12_, .i t14, .n h0_n, .f h0, .i h1_0, .f h1_1, .f h1_2, .p h2, .r h3, .p h4, .r h5, .g h6_]))
    | _ => none) ((q0id α N).ls 4 16))
theorem q0il {α : Type} (N : Nat) : EnvOk Try.prog (q0ik α N) := (q0ie N).addLoop2 Try.func4 (by kernel_rfl) (loopSum_ok q03v q03w (q0ie N) Try.func4 (by kernel_rfl) (d := 1) (ro := 1) fun l K r h => by
  split at h
  · exact (q0ij N _ _ _ _ _ _ _ _ _ _ _ _ _ _ _ _ _ K N _ _ _).trans h
  · cases h)
def q0im : SPat := ⟨[.sliceV 0 0 0 1 false, .undef, .undef, .ptr ⟨⟨1, 0⟩, 0, 0, 1⟩, .sliceV 2 0 0 1 true, .undef, .undef, .undef, .bool, .undef, .undef, .undef, .int .i64, .ptr ⟨⟨6, 0⟩, 0, 0, 8⟩, .int .i64] ++ List.replicate 373 .undef, [[.intsV .u8], [.vals [.int .i64], .ints .u8 8, .ints .u8 8], [.hdr 3], [.pool .i64], [.hdr 5], [.pool .i64], [.bools 8]]⟩
def q0in : SPat := ⟨[.undef, .undef, .boolC false] ++ List.replicate 385 .undef, [[.intsV .u8], [.vals [.int .i64], .ints .u8 8, .ints .u8 8], [.hdr 3], [.pool .i64], [.hdr 5], [.pool .i64], [.bools 8]]⟩
def q0io : SPat := ⟨[.sliceV 0 0 0 1 false, .undef, .undef, .ptr ⟨⟨1, 0⟩, 0, 0, 1⟩, .sliceV 2 0 0 1 true, .undef, .undef, .undef, .bool, .undef, .undef, .undef, .int .i64] ++ List.replicate 375 .undef, [[.intsV .u8], [.vals [.int .i64], .ints .u8 8, .ints .u8 8], [.hdr 3], [.pool .i64], [.hdr 5], [.pool .i64], [.bools 8]]⟩
theorem q0ip {α : Type} (N code_n code_l code_c t4_n t4_l t4_c : Nat) (t8 : Bool) (t12 t14 : Int) (h0_n : Nat) (h0 : NI) (h1_0 : Int) (h1_1 h1_2 : NI) (h2 : List (Nat × Nat)) (h3 : List (List Int)) (h4 : List (Nat × Nat)) (h5 : List (List Int)) (h6 : Nat -> Bool) (kn : St -> Option α) (K : AExit -> St -> Option α) :
    roundK Try.prog (q0ik α N) 1 1 4 Try.f4 13 7 (buildS q0im [.n code_n, .n code_l, .n code_c, .n t4_n, .n t4_l, .n t4_c, .b t8, .i t12, .i t14, .n h0_n, .f h0, .i h1_0, .f h1_1, .f h1_2, .p h2, .r h3, .p h4, .r h5, .g h6]) kn K = q03o none N code_n code_l code_c t4_n t4_l t4_c t8 h0_n h0 h1_0 h1_1 h1_2 h2 h3 h4 h5 t12 t14 h6 (fun t12 t14 h6 => kn (buildS q0im [.n code_n, .n code_l, .n code_c, .n t4_n, .n t4_l, .n t4_c, .b t8, .i t12, .i t14, .n h0_n, .f h0, .i h1_0, .f h1_1, .f h1_2, .p h2, .r h3, .p h4, .r h5, .g h6])) (fun h6_ => K .ret (buildS q0in [.n h0_n, .f h0, .i h1_0, .f h1_1, .f h1_2, .p h2, .r h3, .p h4, .r h5, .g h6_])) (fun t12_ h6_ => K (.exit 0) (buildS q0io [.n code_n, .n code_l, .n code_c, .n t4_n, .n t4_l, .n t4_c, .b t8, .i t12_, .n h0_n, .f h0, .i h1_0, .f h1_1, .f h1_2, .p h2, .r h3, .p h4, .r h5, .g h6_])) := by kernel_rfl
theorem q0iq {α : Type} (N code_n code_l code_c t4_n t4_l t4_c : Nat) (t8 : Bool) (h0_n : Nat) (h0 : NI) (h1_0 : Int) (h1_1 h1_2 : NI) (h2 : List (Nat × Nat)) (h3 : List (List Int)) (h4 : List (Nat × Nat)) (h5 : List (List Int)) (K : AExit -> St -> Option α) : ∀ (m : Nat) (t12 t14 : Int) (h6 : Nat -> Bool),
    loopN (trimSt ((q0ik α N).ann 4 13).head ((q0ik α N).ann 4 13).grow 7) (bodyK Try.prog (q0ik α N) 1 1 4 Try.f4 13) m (buildS q0im [.n code_n, .n code_l, .n code_c, .n t4_n, .n t4_l, .n t4_c, .b t8, .i t12, .i t14, .n h0_n, .f h0, .i h1_0, .f h1_1, .f h1_2, .p h2, .r h3, .p h4, .r h5, .g h6]) (leaveLoop ((q0ik α N).ann 4 13) 7 K) = q03p none N code_n code_l code_c t4_n t4_l t4_c t8 h0_n h0 h1_0 h1_1 h1_2 h2 h3 h4 h5 m t12 t14 h6 (fun h6_ => K .ret (buildS q0in [.n h0_n, .f h0, .i h1_0, .f h1_1, .f h1_2, .p h2, .r h3, .p h4, .r h5, .g h6_])) (fun t12_ h6_ => K (.exit 0) (buildS q0io [.n code_n, .n code_l, .n code_c, .n t4_n, .n t4_l, .n t4_c, .b t8, .i t12_, .n h0_n, .f h0, .i h1_0, .f h1_1, .f h1_2, .p h2, .r h3, .p h4, .r h5, .g h6_])) := by
  intro m
  induction m with
  | zero => intros; rfl
  | succ m ih =>
    intro t12 t14 h6
    rw [loopN_round]
    refine (q0ip N code_n code_l code_c t4_n t4_l t4_c t8 t12 t14 h0_n h0 h1_0 h1_1 h1_2 h2 h3 h4 h5 h6 _ K).trans ?_
    simp only [ih]
    rfl
def q0ir (α : Type) (N : Nat) : Env α := (q0ik α N).addLoop2 4 13 (loopSum2 ((q0ik α N).ann 4 13) 1 q0im (fun l K => match l with
    | [.n code_n, .n code_l, .n code_c, .n t4_n, .n t4_l, .n t4_c, .b t8, .i t12, .i t14, .n h0_n, .f h0, .i h1_0, .f h1_1, .f h1_2, .p h2, .r h3, .p h4, .r h5, .g h6] => q03p none N code_n code_l code_c t4_n t4_l t4_c t8 h0_n h0 h1_0 h1_1 h1_2 h2 h3 h4 h5 N t12 t14 h6 (fun h6_ => K .ret (buildS q0in [.n h0_n, .f h0, .i h1_0, .f h1_1, .f h1_2, .p h2, .r h3, .p h4, .r h5, .g h6_])) (fun t12_ h6_ => K (.exit 0) (buildS q0io [.n code_n, .n code_l, .n code_c, .n t4_n, .n t4_l, .n t4_c, .b t8, .i t12_, .n h0_n, .f h0, .i h1_0, .f h1_1, .f h1_2, .p h2, .r h3, .p h4, .r h5, .g h6_]))
    | _ => none) ((q0ik α N).ls 4 13))
theorem q0is {α : Type} (N : Nat) : EnvOk Try.prog (q0ir α N) := (q0il N).addLoop2 Try.func4 (by kernel_rfl) (loopSum_ok q03v q03w (q0il N) Try.func4 (by kernel_rfl) (d := 1) (ro := 1) fun l K r h => by
  split at h
  · exact (q0iq N _ _ _ _ _ _ _ _ _ _ _ _ _ _ _ _ K N _ _ _).trans h
  · cases h)
def q0it : SPat := ⟨[.int .i64, .int .i64, .ptr ⟨⟨0, 0⟩, 0, 0, 1⟩], [[.vals [.int .i64], .ints .u8 8, .ints .u8 8]]⟩
def q0iu : SPat := ⟨[.tuple [.int .i64, .int .i64]], [[.vals [.int .i64], .ints .u8 8, .ints .u8 8]]⟩
theorem q0iv {α : Type} (N : Nat) (i r_ h0_0 : Int) (h0_1 h0_2 : NI) (K : AV -> Heap -> Option α) :
    callK Try.prog (q0ir α N) 1 194 1 (buildS q0it [.i i, .i r_, .i h0_0, .f h0_1, .f h0_2]).t (buildS q0it [.i i, .i r_, .i h0_0, .f h0_1, .f h0_2]).h K = q022 none N i r_ h0_0 h0_1 h0_2 (fun r_0_ => retK (buildS q0iu [.i r_0_, .i i, .i h0_0, .f h0_1, .f h0_2]) K) := by kernel_rfl
def q0iw (α : Type) (N : Nat) : Env α := (q0ir α N).addFun 194 true 1 q0it (fun l K => match l with
    | [.i i, .i r_, .i h0_0, .f h0_1, .f h0_2] => q022 none N i r_ h0_0 h0_1 h0_2 (fun r_0_ => retK (buildS q0iu [.i r_0_, .i i, .i h0_0, .f h0_1, .f h0_2]) K)
    | _ => none)
theorem q0ix {α : Type} (N : Nat) : EnvOk Try.prog (q0iw α N) := (q0is N).addFun q03v q03w (d := 1) fun l K r h => by
  split at h
  · exact (q0iv N _ _ _ _ _ K).trans h
  · cases h
def q0iy : SPat := ⟨[.undef, .func 194 [.ptr ⟨⟨0, 0⟩, 0, 0, 1⟩], .undef, .ptr ⟨⟨1, 0⟩, 0, 0, 1⟩, .undef, .undef, .ptr ⟨⟨2, 0⟩, 0, 0, 1⟩, .ptr ⟨⟨3, 0⟩, 0, 0, 1⟩, .ptr ⟨⟨3, 0⟩, 2, 0, 8⟩, .ptr ⟨⟨3, 0⟩, 1, 0, 8⟩, .undef, .undef, .undef, .undef, .undef, .undef, .undef, .undef, .undef, .undef, .undef, .undef, .int .i64, .int .i64] ++ List.replicate 38 .undef, [[.vals [.int .i64], .ints .u8 8, .ints .u8 8], [.vals [.int .i64], .ints .u8 8, .ints .u8 8], [.vals [.int .i64], .ints .u8 8, .ints .u8 8], [.vals [.int .i64], .ints .u8 8, .ints .u8 8]]⟩
def q0iz : SPat := ⟨[.undef, .undef, .undef, .undef, .undef, .undef, .ptr ⟨⟨2, 0⟩, 0, 0, 1⟩, .ptr ⟨⟨3, 0⟩, 0, 0, 1⟩] ++ List.replicate 54 .undef, [[.vals [.int .i64], .ints .u8 8, .ints .u8 8], [.vals [.int .i64], .ints .u8 8, .ints .u8 8], [.vals [.int .i64], .ints .u8 8, .ints .u8 8], [.vals [.int .i64], .ints .u8 8, .ints .u8 8]]⟩
theorem q0j0 {α : Type} (N : Nat) (t22 t23 h0_0 : Int) (h0_1 h0_2 : NI) (h1_0 : Int) (h1_1 h1_2 : NI) (h2_0 : Int) (h2_1 h2_2 : NI) (h3_0 : Int) (h3_1 h3_2 : NI) (kn : St -> Option α) (K : AExit -> St -> Option α) :
    roundK Try.prog (q0iw α N) 1 1 162 Try.f162 6 4 (buildS q0iy [.i t22, .i t23, .i h0_0, .f h0_1, .f h0_2, .i h1_0, .f h1_1, .f h1_2, .i h2_0, .f h2_1, .f h2_2, .i h3_0, .f h3_1, .f h3_2]) kn K = q023 none N t22 h0_0 h0_1 h0_2 h1_0 h1_1 h1_2 h2_0 h2_1 h2_2 h3_0 t23 h3_1 h3_2 (fun t23 h3_1 h3_2 => kn (buildS q0iy [.i t22, .i t23, .i h0_0, .f h0_1, .f h0_2, .i h1_0, .f h1_1, .f h1_2, .i h2_0, .f h2_1, .f h2_2, .i h3_0, .f h3_1, .f h3_2])) (fun h3_1_ h3_2_ => K (.exit 0) (buildS q0iz [.i h0_0, .f h0_1, .f h0_2, .i h1_0, .f h1_1, .f h1_2, .i h2_0, .f h2_1, .f h2_2, .i h3_0, .f h3_1_, .f h3_2_])) := by kernel_rfl
theorem q0j1 {α : Type} (N : Nat) (t22 h0_0 : Int) (h0_1 h0_2 : NI) (h1_0 : Int) (h1_1 h1_2 : NI) (h2_0 : Int) (h2_1 h2_2 : NI) (h3_0 : Int) (K : AExit -> St -> Option α) : ∀ (m : Nat) (t23 : Int) (h3_1 h3_2 : NI),
    loopN (trimSt ((q0iw α N).ann 162 6).head ((q0iw α N).ann 162 6).grow 4) (bodyK Try.prog (q0iw α N) 1 1 162 Try.f162 6) m (buildS q0iy [.i t22, .i t23, .i h0_0, .f h0_1, .f h0_2, .i h1_0, .f h1_1, .f h1_2, .i h2_0, .f h2_1, .f h2_2, .i h3_0, .f h3_1, .f h3_2]) (leaveLoop ((q0iw α N).ann 162 6) 4 K) = q024 none N t22 h0_0 h0_1 h0_2 h1_0 h1_1 h1_2 h2_0 h2_1 h2_2 h3_0 m t23 h3_1 h3_2 (fun h3_1_ h3_2_ => K (.exit 0) (buildS q0iz [.i h0_0, .f h0_1, .f h0_2, .i h1_0, .f h1_1, .f h1_2, .i h2_0, .f h2_1, .f h2_2, .i h3_0, .f h3_1_, .f h3_2_])) := by
  intro m
  induction m with
  | zero => intros; rfl
  | succ m ih =>
    intro t23 h3_1 h3_2
    rw [loopN_round]
    refine (q0j0 N t22 t23 h0_0 h0_1 h0_2 h1_0 h1_1 h1_2 h2_0 h2_1 h2_2 h3_0 h3_1 h3_2 _ K).trans ?_
    simp only [ih]
    rfl
def q0j2 (α : Type) (N : Nat) : Env α := (q0iw α N).addLoop2 162 6 (loopSum2 ((q0iw α N).ann 162 6) 1 q0iy (fun l K => match l with
    | [.i t22, .i t23, .i h0_0, .f h0_1, .f h0_2, .i h1_0, .f h1_1, .f h1_2, .i h2_0, .f h2_1, .f h2_2, .i h3_0, .f h3_1, .f h3_2] => q024 none N t22 h0_0 h0_1 h0_2 h1_0 h1_1 h1_2 h2_0 h2_1 h2_2 h3_0 N t23 h3_1 h3_2 (fun h3_1_ h3_2_ => K (.exit 0) (buildS q0iz [.i h0_0, .f h0_1, .f h0_2, .i h1_0, .f h1_1, .f h1_2, .i h2_0, .f h2_1, .f h2_2, .i h3_0, .f h3_1_, .f h3_2_]))
    | _ => none) ((q0iw α N).ls 162 6))
theorem q0j3 {α : Type} (N : Nat) : EnvOk Try.prog (q0j2 α N) := (q0ix N).addLoop2 Try.func162 (by kernel_rfl) (loopSum_ok q03v q03w (q0ix N) Try.func162 (by kernel_rfl) (d := 1) (ro := 1) fun l K r h => by
  split at h
  · exact (q0j1 N _ _ _ _ _ _ _ _ _ _ _ K N _ _ _).trans h
  · cases h)
def q0j4 : SPat := ⟨[.undef, .func 194 [.ptr ⟨⟨0, 0⟩, 0, 0, 1⟩], .undef, .ptr ⟨⟨1, 0⟩, 0, 0, 1⟩, .undef, .undef, .ptr ⟨⟨2, 0⟩, 0, 0, 1⟩, .ptr ⟨⟨3, 0⟩, 0, 0, 1⟩, .ptr ⟨⟨3, 0⟩, 1, 0, 8⟩, .ptr ⟨⟨3, 0⟩, 2, 0, 8⟩, .undef, .undef, .undef, .undef, .undef, .undef, .undef, .undef, .undef, .undef, .undef, .undef, .int .i64, .int .i64] ++ List.replicate 38 .undef, [[.vals [.int .i64], .ints .u8 8, .ints .u8 8], [.vals [.int .i64], .ints .u8 8, .ints .u8 8], [.vals [.int .i64], .ints .u8 8, .ints .u8 8], [.vals [.int .i64], .ints .u8 8, .ints .u8 8]]⟩
def q0j5 : SPat := ⟨[.undef, .undef, .undef, .undef, .undef, .undef, .ptr ⟨⟨2, 0⟩, 0, 0, 1⟩, .ptr ⟨⟨3, 0⟩, 0, 0, 1⟩] ++ List.replicate 54 .undef, [[.vals [.int .i64], .ints .u8 8, .ints .u8 8], [.vals [.int .i64], .ints .u8 8, .ints .u8 8], [.vals [.int .i64], .ints .u8 8, .ints .u8 8], [.vals [.int .i64], .ints .u8 8, .ints .u8 8]]⟩
theorem q0j6 {α : Type} (N : Nat) (t22 t23 h0_0 : Int) (h0_1 h0_2 : NI) (h1_0 : Int) (h1_1 h1_2 : NI) (h2_0 : Int) (h2_1 h2_2 : NI) (h3_0 : Int) (h3_1 h3_2 : NI) (kn : St -> Option α) (K : AExit -> St -> Option α) :
    roundK Try.prog (q0j2 α N) 1 1 162 Try.f162 6 4 (buildS q0j4 [.i t22, .i t23, .i h0_0, .f h0_1, .f h0_2, .i h1_0, .f h1_1, .f h1_2, .i h2_0, .f h2_1, .f h2_2, .i h3_0, .f h3_1, .f h3_2]) kn K = q025 none N t22 h0_0 h0_1 h0_2 h1_0 h1_1 h1_2 h2_0 h2_1 h2_2 h3_0 t23 h3_1 h3_2 (fun t23 h3_1 h3_2 => kn (buildS q0j4 [.i t22, .i t23, .i h0_0, .f h0_1, .f h0_2, .i h1_0, .f h1_1, .f h1_2, .i h2_0, .f h2_1, .f h2_2, .i h3_0, .f h3_1, .f h3_2])) (fun h3_1_ h3_2_ => K (.exit 0) (buildS q0j5 [.i h0_0, .f h0_1, .f h0_2, .i h1_0, .f h1_1, .f h1_2, .i h2_0, .f h2_1, .f h2_2, .i h3_0, .f h3_1_, .f h3_2_])) := by kernel_rfl
theorem q0j7 {α : Type} (N : Nat) (t22 h0_0 : Int) (h0_1 h0_2 : NI) (h1_0 : Int) (h1_1 h1_2 : NI) (h2_0 : Int) (h2_1 h2_2 : NI) (h3_0 : Int) (K : AExit -> St -> Option α) : ∀ (m : Nat) (t23 : Int) (h3_1 h3_2 : NI),
    loopN (trimSt ((q0j2 α N).ann 162 6).head ((q0j2 α N).ann 162 6).grow 4) (bodyK Try.prog (q0j2 α N) 1 1 162 Try.f162 6) m (buildS q0j4 [.i t22, .i t23, .i h0_0, .f h0_1, .f h0_2, .i h1_0, .f h1_1, .f h1_2, .i h2_0, .f h2_1, .f h2_2, .i h3_0, .f h3_1, .f h3_2]) (leaveLoop ((q0j2 α N).ann 162 6) 4 K) = q026 none N t22 h0_0 h0_1 h0_2 h1_0 h1_1 h1_2 h2_0 h2_1 h2_2 h3_0 m t23 h3_1 h3_2 (fun h3_1_ h3_2_ => K (.exit 0) (buildS q0j5 [.i h0_0, .f h0_1, .f h0_2, .i h1_0, .f h1_1, .f h1_2, .i h2_0, .f h2_1, .f h2_2, .i h3_0, .f h3_1_, .f h3_2_])) := by
  intro m
  induction m with
  | zero => intros; rfl
  | succ m ih =>
    intro t23 h3_1 h3_2
    rw [loopN_round]
    refine (q0j6 N t22 t23 h0_0 h0_1 h0_2 h1_0 h1_1 h1_2 h2_0 h2_1 h2_2 h3_0 h3_1 h3_2 _ K).trans ?_
    simp only [ih]
    rfl
def q0j8 (α : Type) (N : Nat) : Env α := (q0j2 α N).addLoop2 162 6 (loopSum2 ((q0j2 α N).ann 162 6) 1 q0j4 (fun l K => match l with
    | [.i t22, .i t23, .i h0_0, .f h0_1, .f h0_2, .i h1_0, .f h1_1, .f h1_2, .i h2_0, .f h2_1, .f h2_2, .i h3_0, .f h3_1, .f h3_2] => q026 none N t22 h0_0 h0_1 h0_2 h1_0 h1_1 h1_2 h2_0 h2_1 h2_2 h3_0 N t23 h3_1 h3_2 (fun h3_1_ h3_2_ => K (.exit 0) (buildS q0j5 [.i h0_0, .f h0_1, .f h0_2, .i h1_0, .f h1_1, .f h1_2, .i h2_0, .f h2_1, .f h2_2, .i h3_0, .f h3_1_, .f h3_2_]))
    | _ => none) ((q0j2 α N).ls 162 6))
theorem q0j9 {α : Type} (N : Nat) : EnvOk Try.prog (q0j8 α N) := (q0j3 N).addLoop2 Try.func162 (by kernel_rfl) (loopSum_ok q03v q03w (q0j3 N) Try.func162 (by kernel_rfl) (d := 1) (ro := 1) fun l K r h => by
  split at h
  · exact (q0j7 N _ _ _ _ _ _ _ _ _ _ _ K N _ _ _).trans h
  · cases h)
def q0ja : SPat := ⟨[.agg [.vals [.int .i64], .ints .u8 8, .ints .u8 8], .func 194 [.ptr ⟨⟨0, 0⟩, 0, 0, 1⟩], .bool], [[.vals [.int .i64], .ints .u8 8, .ints .u8 8]]⟩
def q0jb : SPat := ⟨[.agg [.vals [.int .i64], .ints .u8 8, .ints .u8 8]], [[.vals [.int .i64], .ints .u8 8, .ints .u8 8]]⟩
theorem q0jc {α : Type} (N : Nat) (g_0 : Int) (g_1 g_2 : NI) (exchanged : Bool) (h0_0 : Int) (h0_1 h0_2 : NI) (K : AV -> Heap -> Option α) :
    callK Try.prog (q0j8 α N) 1 162 1 (buildS q0ja [.i g_0, .f g_1, .f g_2, .b exchanged, .i h0_0, .f h0_1, .f h0_2]).t (buildS q0ja [.i g_0, .f g_1, .f g_2, .b exchanged, .i h0_0, .f h0_1, .f h0_2]).h K = q027 none N g_0 g_1 g_2 exchanged h0_0 h0_1 h0_2 (fun r_1_ r_2_ => retK (buildS q0jb [.i g_0, .f r_1_, .f r_2_, .i h0_0, .f h0_1, .f h0_2]) K) := by kernel_rfl
def q0jd (α : Type) (N : Nat) : Env α := (q0j8 α N).addFun 162 true 1 q0ja (fun l K => match l with
    | [.i g_0, .f g_1, .f g_2, .b exchanged, .i h0_0, .f h0_1, .f h0_2] => q027 none N g_0 g_1 g_2 exchanged h0_0 h0_1 h0_2 (fun r_1_ r_2_ => retK (buildS q0jb [.i g_0, .f r_1_, .f r_2_, .i h0_0, .f h0_1, .f h0_2]) K)
    | _ => none)
theorem q0je {α : Type} (N : Nat) : EnvOk Try.prog (q0jd α N) := (q0j9 N).addFun q03v q03w (d := 1) fun l K r h => by
  split at h
  · exact (q0jc N _ _ _ _ _ _ _ K).trans h
  · cases h
def q0jf : SPat := ⟨[.agg [.vals [.int .i64], .ints .u8 8, .ints .u8 8]], []⟩
def q0jg : SPat := ⟨[.agg [.vals [.int .i64], .ints .u8 8, .ints .u8 8]], []⟩
theorem q0jh {α : Type} (N : Nat) (g_0 : Int) (g_1 g_2 : NI) (K : AV -> Heap -> Option α) :
    callK Try.prog (q0jd α N) 1 112 0 (buildS q0jf [.i g_0, .f g_1, .f g_2]).t (buildS q0jf [.i g_0, .f g_1, .f g_2]).h K = q028 none N g_0 g_1 g_2 (fun r_1_ r_2_ => retK (buildS q0jg [.i g_0, .f r_1_, .f r_2_]) K) := by kernel_rfl
def q0ji (α : Type) (N : Nat) : Env α := (q0jd α N).addFun 112 true 0 q0jf (fun l K => match l with
    | [.i g_0, .f g_1, .f g_2] => q028 none N g_0 g_1 g_2 (fun r_1_ r_2_ => retK (buildS q0jg [.i g_0, .f r_1_, .f r_2_]) K)
    | _ => none)
theorem q0jj {α : Type} (N : Nat) : EnvOk Try.prog (q0ji α N) := (q0je N).addFun q03v q03w (d := 1) fun l K r h => by
  split at h
  · exact (q0jh N _ _ _ K).trans h
  · cases h
def q0jk : SPat := ⟨[.agg [.vals [.int .i64], .ints .u8 8, .ints .u8 8], .func 112 []], []⟩
def q0jl : SPat := ⟨[.tuple [.agg [.vals [.int .i64], .ints .u8 8, .ints .u8 8], .int .i64]], []⟩
theorem q0jm {α : Type} (N : Nat) (g_0 : Int) (g_1 g_2 : NI) (K : AV -> Heap -> Option α) :
    callK Try.prog (q0ji α N) 1 111 0 (buildS q0jk [.i g_0, .f g_1, .f g_2]).t (buildS q0jk [.i g_0, .f g_1, .f g_2]).h K = q02y none N g_0 g_1 g_2 (fun r_0_0_ r_0_1_ r_0_2_ r_1_ => retK (buildS q0jl [.i r_0_0_, .f r_0_1_, .f r_0_2_, .i r_1_]) K) := by kernel_rfl
def q0jn (α : Type) (N : Nat) : Env α := (q0ji α N).addFun 111 true 0 q0jk (fun l K => match l with
    | [.i g_0, .f g_1, .f g_2] => q02y none N g_0 g_1 g_2 (fun r_0_0_ r_0_1_ r_0_2_ r_1_ => retK (buildS q0jl [.i r_0_0_, .f r_0_1_, .f r_0_2_, .i r_1_]) K)
    | _ => none)
theorem q0jo {α : Type} (N : Nat) : EnvOk Try.prog (q0jn α N) := (q0jj N).addFun q03v q03w (d := 1) fun l K r h => by
  split at h
  · exact (q0jm N _ _ _ K).trans h
  · cases h
def q0jp : SPat := ⟨[.agg [.vals [.int .i64], .ints .u8 8, .ints .u8 8]], []⟩
def q0jq : SPat := ⟨[.tuple [.agg [.vals [.int .i64], .ints .u8 8, .ints .u8 8], .int .i64]], []⟩
theorem q0jr {α : Type} (N : Nat) (g_0 : Int) (g_1 g_2 : NI) (K : AV -> Heap -> Option α) :
    callK Try.prog (q0jn α N) 1 23 0 (buildS q0jp [.i g_0, .f g_1, .f g_2]).t (buildS q0jp [.i g_0, .f g_1, .f g_2]).h K = q02z none N g_0 g_1 g_2 (fun r_0_0_ r_0_1_ r_0_2_ r_1_ => retK (buildS q0jq [.i r_0_0_, .f r_0_1_, .f r_0_2_, .i r_1_]) K) := by kernel_rfl
def q0js (α : Type) (N : Nat) : Env α := (q0jn α N).addFun 23 true 0 q0jp (fun l K => match l with
    | [.i g_0, .f g_1, .f g_2] => q02z none N g_0 g_1 g_2 (fun r_0_0_ r_0_1_ r_0_2_ r_1_ => retK (buildS q0jq [.i r_0_0_, .f r_0_1_, .f r_0_2_, .i r_1_]) K)
    | _ => none)
theorem q0jt {α : Type} (N : Nat) : EnvOk Try.prog (q0js α N) := (q0jo N).addFun q03v q03w (d := 1) fun l K r h => by
  split at h
  · exact (q0jr N _ _ _ K).trans h
  · cases h
def q0ju : SPat := ⟨[.agg [.vals [.int .i64], .ints .u8 8, .ints .u8 8]], []⟩
def q0jv : SPat := ⟨[.agg [.vals [.int .i64], .ints .u8 8, .ints .u8 8]], []⟩
theorem q0jw {α : Type} (N : Nat) (g_0 : Int) (g_1 g_2 : NI) (K : AV -> Heap -> Option α) :
    callK Try.prog (q0js α N) 1 113 0 (buildS q0ju [.i g_0, .f g_1, .f g_2]).t (buildS q0ju [.i g_0, .f g_1, .f g_2]).h K = q02i none N g_0 g_1 g_2 (retK (buildS q0jv [.i g_0, .f g_2, .f g_1]) K) := by kernel_rfl
def q0jx (α : Type) (N : Nat) : Env α := (q0js α N).addFun 113 true 0 q0ju (fun l K => match l with
    | [.i g_0, .f g_1, .f g_2] => q02i none N g_0 g_1 g_2 (retK (buildS q0jv [.i g_0, .f g_2, .f g_1]) K)
    | _ => none)
theorem q0jy {α : Type} (N : Nat) : EnvOk Try.prog (q0jx α N) := (q0jt N).addFun q03v q03w (d := 1) fun l K r h => by
  split at h
  · exact (q0jw N _ _ _ K).trans h
  · cases h
def q0jz : SPat := ⟨[.agg [.vals [.int .i64], .ints .u8 8, .ints .u8 8], .func 113 []], []⟩
def q0k0 : SPat := ⟨[.tuple [.agg [.vals [.int .i64], .ints .u8 8, .ints .u8 8], .int .i64]], []⟩
theorem q0k1 {α : Type} (N : Nat) (g_0 : Int) (g_1 g_2 : NI) (K : AV -> Heap -> Option α) :
    callK Try.prog (q0jx α N) 1 111 0 (buildS q0jz [.i g_0, .f g_1, .f g_2]).t (buildS q0jz [.i g_0, .f g_1, .f g_2]).h K = q02j none N g_0 g_1 g_2 (fun r_0_0_ r_0_1_ r_0_2_ r_1_ => retK (buildS q0k0 [.i r_0_0_, .f r_0_1_, .f r_0_2_, .i r_1_]) K) := by kernel_rfl
def q0k2 (α : Type) (N : Nat) : Env α := (q0jx α N).addFun 111 true 0 q0jz (fun l K => match l with
    | [.i g_0, .f g_1, .f g_2] => q02j none N g_0 g_1 g_2 (fun r_0_0_ r_0_1_ r_0_2_ r_1_ => retK (buildS q0k0 [.i r_0_0_, .f r_0_1_, .f r_0_2_, .i r_1_]) K)
    | _ => none)
theorem q0k3 {α : Type} (N : Nat) : EnvOk Try.prog (q0k2 α N) := (q0jy N).addFun q03v q03w (d := 1) fun l K r h => by
  split at h
  · exact (q0k1 N _ _ _ K).trans h
  · cases h
def q0k4 : SPat := ⟨[.agg [.vals [.int .i64], .ints .u8 8, .ints .u8 8]], []⟩
def q0k5 : SPat := ⟨[.tuple [.agg [.vals [.int .i64], .ints .u8 8, .ints .u8 8], .int .i64]], []⟩
theorem q0k6 {α : Type} (N : Nat) (g_0 : Int) (g_1 g_2 : NI) (K : AV -> Heap -> Option α) :
    callK Try.prog (q0k2 α N) 1 24 0 (buildS q0k4 [.i g_0, .f g_1, .f g_2]).t (buildS q0k4 [.i g_0, .f g_1, .f g_2]).h K = q02k none N g_0 g_1 g_2 (fun r_0_0_ r_0_1_ r_0_2_ r_1_ => retK (buildS q0k5 [.i r_0_0_, .f r_0_1_, .f r_0_2_, .i r_1_]) K) := by kernel_rfl
def q0k7 (α : Type) (N : Nat) : Env α := (q0k2 α N).addFun 24 true 0 q0k4 (fun l K => match l with
    | [.i g_0, .f g_1, .f g_2] => q02k none N g_0 g_1 g_2 (fun r_0_0_ r_0_1_ r_0_2_ r_1_ => retK (buildS q0k5 [.i r_0_0_, .f r_0_1_, .f r_0_2_, .i r_1_]) K)
    | _ => none)
theorem q0k8 {α : Type} (N : Nat) : EnvOk Try.prog (q0k7 α N) := (q0k3 N).addFun q03v q03w (d := 1) fun l K r h => by
  split at h
  · exact (q0k6 N _ _ _ K).trans h
  · cases h
def q0k9 : SPat := ⟨[.sliceV 0 0 0 1 true, .sliceV 1 0 0 1 true, .undef, .undef, .undef, .int .i64] ++ List.replicate 21 .undef, [[.hdr 2], [.hdr 3], [.pool .i64], [.pool .i64]]⟩
def q0ka : SPat := ⟨[.undef, .undef, .undef, .undef, .boolC false] ++ List.replicate 22 .undef, [[.hdr 2], [.hdr 3], [.pool .i64], [.pool .i64]]⟩
def q0kb : SPat := ⟨[] ++ List.replicate 27 .undef, [[.hdr 2], [.hdr 3], [.pool .i64], [.pool .i64]]⟩
theorem q0kc {α : Type} (N a_n a_l a_c b_n b_l b_c : Nat) (i : Int) (h0 h1 : List (Nat × Nat)) (h2 h3 : List (List Int)) (kn : St -> Option α) (K : AExit -> St -> Option α) :
    roundK Try.prog (q0k7 α N) 1 4 22 Try.f22 4 4 (buildS q0k9 [.n a_n, .n a_l, .n a_c, .n b_n, .n b_l, .n b_c, .i i, .p h0, .p h1, .r h2, .r h3]) kn K = q03q none N a_n a_l a_c b_n b_l b_c h0 h1 h2 h3 i (fun i => kn (buildS q0k9 [.n a_n, .n a_l, .n a_c, .n b_n, .n b_l, .n b_c, .i i, .p h0, .p h1, .r h2, .r h3])) (K .ret (buildS q0ka [.p h0, .p h1, .r h2, .r h3])) (K (.exit 0) (buildS q0kb [.p h0, .p h1, .r h2, .r h3])) := by kernel_rfl
theorem q0kd {α : Type} (N a_n a_l a_c b_n b_l b_c : Nat) (h0 h1 : List (Nat × Nat)) (h2 h3 : List (List Int)) (K : AExit -> St -> Option α) : ∀ (m : Nat) (i : Int),
    loopN (trimSt ((q0k7 α N).ann 22 4).head ((q0k7 α N).ann 22 4).grow 4) (bodyK Try.prog (q0k7 α N) 1 4 22 Try.f22 4) m (buildS q0k9 [.n a_n, .n a_l, .n a_c, .n b_n, .n b_l, .n b_c, .i i, .p h0, .p h1, .r h2, .r h3]) (leaveLoop ((q0k7 α N).ann 22 4) 4 K) = q03r none N a_n a_l a_c b_n b_l b_c h0 h1 h2 h3 m i (K .ret (buildS q0ka [.p h0, .p h1, .r h2, .r h3])) (K (.exit 0) (buildS q0kb [.p h0, .p h1, .r h2, .r h3])) := by
  intro m
  induction m with
  | zero => intros; rfl
  | succ m ih =>
    intro i
    rw [loopN_round]
    refine (q0kc N a_n a_l a_c b_n b_l b_c i h0 h1 h2 h3 _ K).trans ?_
    simp only [ih]
    rfl
def q0ke (α : Type) (N : Nat) : Env α := (q0k7 α N).addLoop2 22 4 (loopSum2 ((q0k7 α N).ann 22 4) 4 q0k9 (fun l K => match l with
    | [.n a_n, .n a_l, .n a_c, .n b_n, .n b_l, .n b_c, .i i, .p h0, .p h1, .r h2, .r h3] => q03r none N a_n a_l a_c b_n b_l b_c h0 h1 h2 h3 N i (K .ret (buildS q0ka [.p h0, .p h1, .r h2, .r h3])) (K (.exit 0) (buildS q0kb [.p h0, .p h1, .r h2, .r h3]))
    | _ => none) ((q0k7 α N).ls 22 4))
theorem q0kf {α : Type} (N : Nat) : EnvOk Try.prog (q0ke α N) := (q0k8 N).addLoop2 Try.func22 (by kernel_rfl) (loopSum_ok q03v q03w (q0k8 N) Try.func22 (by kernel_rfl) (d := 1) (ro := 4) fun l K r h => by
  split at h
  · exact (q0kd N _ _ _ _ _ _ _ _ _ _ K N _).trans h
  · cases h)
def q0kg : SPat := ⟨[.sliceV 0 0 0 1 true, .sliceV 1 0 0 1 true], [[.hdr 2], [.hdr 3], [.pool .i64], [.pool .i64]]⟩
def q0kh : SPat := ⟨[.bool], [[.hdr 2], [.hdr 3], [.pool .i64], [.pool .i64]]⟩
theorem q0ki {α : Type} (N a_n a_l a_c b_n b_l b_c : Nat) (h0 h1 : List (Nat × Nat)) (h2 h3 : List (List Int)) (K : AV -> Heap -> Option α) :
    callK Try.prog (q0ke α N) 1 22 4 (buildS q0kg [.n a_n, .n a_l, .n a_c, .n b_n, .n b_l, .n b_c, .p h0, .p h1, .r h2, .r h3]).t (buildS q0kg [.n a_n, .n a_l, .n a_c, .n b_n, .n b_l, .n b_c, .p h0, .p h1, .r h2, .r h3]).h K = q03s none N a_n a_l a_c b_n b_l b_c h0 h1 h2 h3 (fun r__ => retK (buildS q0kh [.b r__, .p h0, .p h1, .r h2, .r h3]) K) := by kernel_rfl
def q0kj (α : Type) (N : Nat) : Env α := (q0ke α N).addFun 22 true 4 q0kg (fun l K => match l with
    | [.n a_n, .n a_l, .n a_c, .n b_n, .n b_l, .n b_c, .p h0, .p h1, .r h2, .r h3] => q03s none N a_n a_l a_c b_n b_l b_c h0 h1 h2 h3 (fun r__ => retK (buildS q0kh [.b r__, .p h0, .p h1, .r h2, .r h3]) K)
    | _ => none)
theorem q0kk {α : Type} (N : Nat) : EnvOk Try.prog (q0kj α N) := (q0kf N).addFun q03v q03w (d := 1) fun l K r h => by
  split at h
  · exact (q0ki N _ _ _ _ _ _ _ _ _ _ K).trans h
  · cases h
def q0kl : SPat := ⟨[.undef, .undef, .undef, .undef, .undef, .undef, .undef, .undef, .undef, .undef, .undef, .undef, .undef, .undef, .undef, .undef, .undef, .undef, .undef, .undef, .undef, .undef, .undef, .undef, .undef, .undef, .undef, .undef, .undef, .undef, .undef, .undef, .undef, .undef, .undef, .undef, .undef, .undef, .undef, .undef, .undef, .undef, .undef, .undef, .undef, .undef, .undef, .undef, .undef, .undef, .undef, .undef, .ptr ⟨⟨1, 0⟩, 0, 0, 1⟩, .undef, .undef, .undef, .int .i64, .int .i64] ++ List.replicate 330 .undef, [[.intsV .u8], [.vals [.int .i64], .ints .u8 8, .ints .u8 8], [.vals [.int .i64], .ints .u8 8, .ints .u8 8]]⟩
def q0km : SPat := ⟨[.undef, .undef, .undef, .undef, .undef, .undef, .undef, .undef, .undef, .undef, .undef, .undef, .undef, .undef, .undef, .undef, .undef, .undef, .undef, .undef, .undef, .undef, .undef, .undef, .undef, .undef, .undef, .undef, .undef, .undef, .undef, .undef, .undef, .undef, .undef, .undef, .undef, .undef, .undef, .undef, .undef, .undef, .undef, .undef, .undef, .undef, .undef, .undef, .undef, .undef, .undef, .undef, .ptr ⟨⟨1, 0⟩, 0, 0, 1⟩, .undef, .undef, .undef, .int .i64] ++ List.replicate 331 .undef, [[.intsV .u8], [.vals [.int .i64], .ints .u8 8, .ints .u8 8], [.vals [.int .i64], .ints .u8 8, .ints .u8 8]]⟩
theorem q0kn {α : Type} (N : Nat) (t56 t57 : Int) (h0_n : Nat) (h0 : NI) (h1_0 : Int) (h1_1 h1_2 : NI) (h2_0 : Int) (h2_1 h2_2 : NI) (kn : St -> Option α) (K : AExit -> St -> Option α) :
    roundK Try.prog (q0kj α N) 1 1 4 Try.f4 58 3 (buildS q0kl [.i t56, .i t57, .n h0_n, .f h0, .i h1_0, .f h1_1, .f h1_2, .i h2_0, .f h2_1, .f h2_2]) kn K = q03t none h0_n h0 h1_0 h1_1 h1_2 h2_0 h2_1 h2_2 t56 t57 (fun t56 t57 => kn (buildS q0kl [.i t56, .i t57, .n h0_n, .f h0, .i h1_0, .f h1_1, .f h1_2, .i h2_0, .f h2_1, .f h2_2])) (fun t56_ => K (.exit 4) (buildS q0km [.i t56_, .n h0_n, .f h0, .i h1_0, .f h1_1, .f h1_2, .i h2_0, .f h2_1, .f h2_2])) := by kernel_rfl
theorem q0ko {α : Type} (N h0_n : Nat) (h0 : NI) (h1_0 : Int) (h1_1 h1_2 : NI) (h2_0 : Int) (h2_1 h2_2 : NI) (K : AExit -> St -> Option α) : ∀ (m : Nat) (t56 t57 : Int),
    loopN (trimSt ((q0kj α N).ann 4 58).head ((q0kj α N).ann 4 58).grow 3) (bodyK Try.prog (q0kj α N) 1 1 4 Try.f4 58) m (buildS q0kl [.i t56, .i t57, .n h0_n, .f h0, .i h1_0, .f h1_1, .f h1_2, .i h2_0, .f h2_1, .f h2_2]) (leaveLoop ((q0kj α N).ann 4 58) 3 K) = q03u none h0_n h0 h1_0 h1_1 h1_2 h2_0 h2_1 h2_2 m t56 t57 (fun t56_ => K (.exit 4) (buildS q0km [.i t56_, .n h0_n, .f h0, .i h1_0, .f h1_1, .f h1_2, .i h2_0, .f h2_1, .f h2_2])) := by
  intro m
  induction m with
  | zero => intros; rfl
  | succ m ih =>
    intro t56 t57
    rw [loopN_round]
    refine (q0kn N t56 t57 h0_n h0 h1_0 h1_1 h1_2 h2_0 h2_1 h2_2 _ K).trans ?_
    exact congrArg (fun kn => q03t none h0_n h0 h1_0 h1_1 h1_2 h2_0 h2_1 h2_2 t56 t57 kn (fun t56_ => K (.exit 4) (buildS q0km [.i t56_, .n h0_n, .f h0, .i h1_0, .f h1_1, .f h1_2, .i h2_0, .f h2_1, .f h2_2]))) (funext fun t56 => funext fun t57 => ih t56 t57)
def q0kp (α : Type) (N : Nat) : Env α := (q0kj α N).addLoop2 4 58 (loopSum2 ((q0kj α N).ann 4 58) 1 q0kl (fun l K => match l with
    | [.i t56, .i t57, .n h0_n, .f h0, .i h1_0, .f h1_1, .f h1_2, .i h2_0, .f h2_1, .f h2_2] => q03u none h0_n h0 h1_0 h1_1 h1_2 h2_0 h2_1 h2_2 N t56 t57 (fun t56_ => K (.exit 4) (buildS q0km [.i t56_, .n h0_n, .f h0, .i h1_0, .f h1_1, .f h1_2, .i h2_0, .f h2_1, .f h2_2]))
    | _ => none) ((q0kj α N).ls 4 58))
theorem q0kq {α : Type} (N : Nat) : EnvOk Try.prog (q0kp α N) := (q0kk N).addLoop2 Try.func4 (by kernel_rfl) (loopSum_ok q03v q03w (q0kk N) Try.func4 (by kernel_rfl) (d := 1) (ro := 1) fun l K r h => by
  split at h
  · exact (q0ko N _ _ _ _ _ _ _ _ K N _ _).trans h
  · cases h)
end Go.AM
