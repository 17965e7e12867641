/- A part of a proof about the given program: an abstract machine, what the given functions come to, and plain laws. -/
import Derived.Test.YtoginabccpjeoaaMachG
import Derived.Test.YtoginabccpjeoaaDallLawMoves1
import Derived.Test.YtoginabccpjeoaaDallLawMoves2
import Derived.Test.YtoginabccpjeoaaProg
set_option linter.unusedVariables false
set_option linter.unusedSimpArgs false
set_option maxRecDepth 100000
set_option maxHeartbeats 4000000
namespace Go.AM
open Go.Proofs
def E0 (α:Type)(N:Nat):Env α:=Env.base (fun _ _=>{}) N
theorem E0_ok {α:Type}(N:Nat):EnvOk Try.prog (E0 α N):=.base
theorem q0td:Try.prog.follows .mixedOrders=true:=by kernel_rfl
theorem q0te:NamesOk Try.prog:=.of_all (by kernel_rfl)
def q0tf:SPat:=⟨[.sliceV 0 0 0 1 false],[[.intsV .u8]]⟩
def q0tg:SPat:=⟨[.bool],[[.intsV .u8]]⟩
theorem q0th {α:Type}(N o1 j1 q1 l0:Nat)(h0:NI)(K:AV->Heap->Option α):
  callK Try.prog (E0 α N) 1 16 1 (buildS q0tf [.n o1,.n j1,.n q1,.n l0,.f h0]).t (buildS q0tf [.n o1,.n j1,.n q1,.n l0,.f h0]).h K=w_big none N o1 j1 q1 l0 h0 (fun r__=>retK (buildS q0tg [.b r__,.n l0,.f h0]) K):=by kernel_rfl
def q0ti (α:Type)(N:Nat):Env α:=(E0 α N).addFun 16 true 1 q0tf (fun l K=>match l with
  | [.n o1,.n j1,.n q1,.n l0,.f h0]=>w_big none N o1 j1 q1 l0 h0 (fun r__=>retK (buildS q0tg [.b r__,.n l0,.f h0]) K)
  | _=>none)
theorem q0tj {α:Type}(N:Nat):EnvOk Try.prog (q0ti α N):=(E0_ok N).addFun q0td q0te (d:=1) fun l K r h=>by
 split at h
 ·exact (q0th N _ _ _ _ _ K).trans h
 ·cases h
def q0tk (α:Type)(N:Nat):Env α:=(q0ti α N).addAnn 104 3 { head:=[0,3,4],grow:=[],out:=[3],ret:=[2] }
theorem q0tl {α:Type}(N:Nat):EnvOk Try.prog (q0tk α N):=(q0tj N).addAnn
def q0tm:SPat:=⟨[.sliceV 0 0 0 1 false,.undef,.undef,.ptr ⟨⟨1,0⟩,0,0,3⟩,.int .i64]++List.replicate 33 .undef,[[.intsV .u8],[.vals [.sliceV 0 0 0 1 false,.int .i64,.int .u64]]]⟩
def q0tn:SPat:=⟨[.undef,.undef,.undef,.ptr ⟨⟨1,0⟩,0,0,3⟩]++List.replicate 34 .undef,[[.intsV .u8],[.vals [.sliceV 0 0 0 1 false,.int .i64,.int .u64]]]⟩
theorem q0to {α:Type}(N o1 j1 q1:Nat)(i:Int)(l0:Nat)(h0:NI)(u0 s0 v0:Nat)(f0 e0:Int)(kn:St->Option α)(K:AExit->St->Option α):
  roundK Try.prog (q0tk α N) 1 1 104 Try.f104 3 2 (buildS q0tm [.n o1,.n j1,.n q1,.i i,.n l0,.f h0,.n u0,.n s0,.n v0,.i f0,.i e0]) kn K=q0fh none o1 j1 q1 l0 h0 u0 s0 v0 f0 i e0 (fun i e0=>kn (buildS q0tm [.n o1,.n j1,.n q1,.i i,.n l0,.f h0,.n u0,.n s0,.n v0,.i f0,.i e0])) (fun N0=>K (.exit 0) (buildS q0tn [.n l0,.f h0,.n u0,.n s0,.n v0,.i f0,.i N0])):=by kernel_rfl
theorem q0tp {α:Type}(N o1 j1 q1 l0:Nat)(h0:NI)(u0 s0 v0:Nat)(f0:Int)(K:AExit->St->Option α):∀ (m:Nat) (i e0:Int),
  loopN (trimSt ((q0tk α N).ann 104 3).head ((q0tk α N).ann 104 3).grow 2) (bodyK Try.prog (q0tk α N) 1 1 104 Try.f104 3) m (buildS q0tm [.n o1,.n j1,.n q1,.i i,.n l0,.f h0,.n u0,.n s0,.n v0,.i f0,.i e0]) (leaveLoop ((q0tk α N).ann 104 3) 2 K)=q0fi none o1 j1 q1 l0 h0 u0 s0 v0 f0 m i e0 (fun N0=>K (.exit 0) (buildS q0tn [.n l0,.f h0,.n u0,.n s0,.n v0,.i f0,.i N0])):=by
 intro m
 induction m with
 | zero=>intros;rfl
 | succ m ih=>
  intro i e0
  rw [q0bc]
  refine (q0to N o1 j1 q1 i l0 h0 u0 s0 v0 f0 e0 _ K).trans ?_
  exact congrArg (fun kn=>q0fh none o1 j1 q1 l0 h0 u0 s0 v0 f0 i e0 kn (fun N0=>K (.exit 0) (buildS q0tn [.n l0,.f h0,.n u0,.n s0,.n v0,.i f0,.i N0]))) (funext fun i=>funext fun e0=>ih i e0)
def q0tq (α:Type)(N:Nat):Env α:=(q0tk α N).addLoop2 104 3 (loopSum2 ((q0tk α N).ann 104 3) 1 q0tm (fun l K=>match l with
  | [.n o1,.n j1,.n q1,.i i,.n l0,.f h0,.n u0,.n s0,.n v0,.i f0,.i e0]=>q0fi none o1 j1 q1 l0 h0 u0 s0 v0 f0 N i e0 (fun N0=>K (.exit 0) (buildS q0tn [.n l0,.f h0,.n u0,.n s0,.n v0,.i f0,.i N0]))
  | _=>none) ((q0tk α N).ls 104 3))
theorem q0tr {α:Type}(N:Nat):EnvOk Try.prog (q0tq α N):=(q0tl N).addLoop2 Try.func104 (by kernel_rfl) (q0ba q0td q0te (q0tl N) Try.func104 (by kernel_rfl) (d:=1) (ro:=1) fun l K r h=>by
 split at h
 ·exact (q0tp N _ _ _ _ _ _ _ _ _ K N _ _).trans h
 ·cases h)
def q0ts:SPat:=⟨[.sliceV 0 0 0 1 false],[[.intsV .u8]]⟩
def q0tt:SPat:=⟨[.ptr ⟨⟨1,0⟩,0,0,3⟩],[[.intsV .u8],[.vals [.sliceV 0 0 0 1 false,.int .i64,.int .u64]]]⟩
theorem q0tu {α:Type}(N o1 j1 q1 l0:Nat)(h0:NI)(K:AV->Heap->Option α):
  callK Try.prog (q0tq α N) 1 104 1 (buildS q0ts [.n o1,.n j1,.n q1,.n l0,.f h0]).t (buildS q0ts [.n o1,.n j1,.n q1,.n l0,.f h0]).h K=q0fj none N o1 j1 q1 l0 h0 (fun R0 N0=>retK (buildS q0tt [.n l0,.f h0,.n o1,.n j1,.n q1,.i R0,.i N0]) K):=by kernel_rfl
def q0tv (α:Type)(N:Nat):Env α:=(q0tq α N).addFun 104 true 1 q0ts (fun l K=>match l with
  | [.n o1,.n j1,.n q1,.n l0,.f h0]=>q0fj none N o1 j1 q1 l0 h0 (fun R0 N0=>retK (buildS q0tt [.n l0,.f h0,.n o1,.n j1,.n q1,.i R0,.i N0]) K)
  | _=>none)
theorem q0tw {α:Type}(N:Nat):EnvOk Try.prog (q0tv α N):=(q0tr N).addFun q0td q0te (d:=1) fun l K r h=>by
 split at h
 ·exact (q0tu N _ _ _ _ _ K).trans h
 ·cases h
def q0tx:SPat:=⟨[.ptr ⟨⟨1,0⟩,0,0,3⟩,.int .i64],[[.intsV .u8],[.vals [.sliceV 0 0 0 1 false,.int .i64,.int .u64]]]⟩
def q0ty:SPat:=⟨[.int .i64],[[.intsV .u8],[.vals [.sliceV 0 0 0 1 false,.int .i64,.int .u64]]]⟩
theorem q0tz {α:Type}(N:Nat)(n:Int)(l0:Nat)(h0:NI)(u0 s0 v0:Nat)(f0 e0:Int)(K:AV->Heap->Option α):
  callK Try.prog (q0tv α N) 1 114 1 (buildS q0tx [.i n,.n l0,.f h0,.n u0,.n s0,.n v0,.i f0,.i e0]).t (buildS q0tx [.i n,.n l0,.f h0,.n u0,.n s0,.n v0,.i f0,.i e0]).h K=q0fk none N n l0 h0 u0 s0 v0 f0 e0 (fun r__ R0 N0=>retK (buildS q0ty [.i r__,.n l0,.f h0,.n u0,.n s0,.n v0,.i R0,.i N0]) K):=by kernel_rfl
def q0u0 (α:Type)(N:Nat):Env α:=(q0tv α N).addFun 114 false 1 q0tx (fun l K=>match l with
  | [.i n,.n l0,.f h0,.n u0,.n s0,.n v0,.i f0,.i e0]=>q0fk none N n l0 h0 u0 s0 v0 f0 e0 (fun r__ R0 N0=>retK (buildS q0ty [.i r__,.n l0,.f h0,.n u0,.n s0,.n v0,.i R0,.i N0]) K)
  | _=>none)
theorem q0u1 {α:Type}(N:Nat):EnvOk Try.prog (q0u0 α N):=(q0tw N).addFun q0td q0te (d:=1) fun l K r h=>by
 split at h
 ·exact (q0tz N _ _ _ _ _ _ _ _ K).trans h
 ·cases h
def q0u2:SPat:=⟨[.ptr ⟨⟨1,0⟩,0,0,3⟩,.slice ⟨⟨2,0⟩,0,0,3⟩ 3 3 1 true],[[.intsV .u8],[.vals [.sliceV 0 0 0 1 false,.int .i64,.int .u64]],[.vec .i64]]⟩
def q0u3:SPat:=⟨[.int .i64],[[.intsV .u8],[.vals [.sliceV 0 0 0 1 false,.int .i64,.int .u64]],[.vec .i64]]⟩
theorem q0u4 {α:Type}(N l0:Nat)(h0:NI)(u0 s0 v0:Nat)(f0 e0:Int)(h2:List Int)(K:AV->Heap->Option α):
  callK Try.prog (q0u0 α N) 1 115 1 (buildS q0u2 [.n l0,.f h0,.n u0,.n s0,.n v0,.i f0,.i e0,.l h2]).t (buildS q0u2 [.n l0,.f h0,.n u0,.n s0,.n v0,.i f0,.i e0,.l h2]).h K=q0fl none N l0 h0 u0 s0 v0 f0 e0 h2 (fun r__ R0 N0=>retK (buildS q0u3 [.i r__,.n l0,.f h0,.n u0,.n s0,.n v0,.i R0,.i N0,.l h2]) K):=by kernel_rfl
def q0u5 (α:Type)(N:Nat):Env α:=(q0u0 α N).addFun 115 false 1 q0u2 (fun l K=>match l with
  | [.n l0,.f h0,.n u0,.n s0,.n v0,.i f0,.i e0,.l h2]=>q0fl none N l0 h0 u0 s0 v0 f0 e0 h2 (fun r__ R0 N0=>retK (buildS q0u3 [.i r__,.n l0,.f h0,.n u0,.n s0,.n v0,.i R0,.i N0,.l h2]) K)
  | _=>none)
theorem q0u6 {α:Type}(N:Nat):EnvOk Try.prog (q0u5 α N):=(q0u1 N).addFun q0td q0te (d:=1) fun l K r h=>by
 split at h
 ·exact (q0u4 N _ _ _ _ _ _ _ _ K).trans h
 ·cases h
def q0u7 (α:Type)(N:Nat):Env α:=(q0u5 α N).addAnn 197 3 { head:=[0,1,4,5,6],grow:=[],out:=[0,1,4,5],ret:=[4] }
theorem q0u8 {α:Type}(N:Nat):EnvOk Try.prog (q0u7 α N):=(q0u6 N).addAnn
def q0u9:SPat:=⟨[.ptr ⟨⟨1,0⟩,0,0,3⟩,.int .i64,.undef,.undef,.ptr ⟨⟨2,0⟩,0,0,8⟩,.ptr ⟨⟨3,0⟩,0,0,8⟩,.int .i64]++List.replicate 35 .undef,[[.intsV .u8],[.vals [.sliceV 0 0 0 1 false,.int .i64,.int .u64]],[.ints .u8 8],[.ints .u8 8]]⟩
def q0ua:SPat:=⟨[.ptr ⟨⟨1,0⟩,0,0,3⟩,.int .i64,.undef,.undef,.ptr ⟨⟨2,0⟩,0,0,8⟩,.ptr ⟨⟨3,0⟩,0,0,8⟩]++List.replicate 36 .undef,[[.intsV .u8],[.vals [.sliceV 0 0 0 1 false,.int .i64,.int .u64]],[.ints .u8 8],[.ints .u8 8]]⟩
theorem q0ub {α:Type}(N:Nat)(n i:Int)(l0:Nat)(h0:NI)(u0 s0 v0:Nat)(f0 e0:Int)(h2 h3:NI)(kn:St->Option α)(K:AExit->St->Option α):
  roundK Try.prog (q0u7 α N) 1 1 197 Try.f197 3 4 (buildS q0u9 [.i n,.i i,.n l0,.f h0,.n u0,.n s0,.n v0,.i f0,.i e0,.f h2,.f h3]) kn K=q0fm none n l0 h0 u0 s0 v0 f0 e0 h2 i h3 (fun i h3=>kn (buildS q0u9 [.i n,.i i,.n l0,.f h0,.n u0,.n s0,.n v0,.i f0,.i e0,.f h2,.f h3])) (fun h3_=>K (.exit 0) (buildS q0ua [.i n,.n l0,.f h0,.n u0,.n s0,.n v0,.i f0,.i e0,.f h2,.f h3_])):=by kernel_rfl
theorem q0uc {α:Type}(N:Nat)(n:Int)(l0:Nat)(h0:NI)(u0 s0 v0:Nat)(f0 e0:Int)(h2:NI)(K:AExit->St->Option α):∀ (m:Nat) (i:Int) (h3:NI),
  loopN (trimSt ((q0u7 α N).ann 197 3).head ((q0u7 α N).ann 197 3).grow 4) (bodyK Try.prog (q0u7 α N) 1 1 197 Try.f197 3) m (buildS q0u9 [.i n,.i i,.n l0,.f h0,.n u0,.n s0,.n v0,.i f0,.i e0,.f h2,.f h3]) (leaveLoop ((q0u7 α N).ann 197 3) 4 K)=q0fn none n l0 h0 u0 s0 v0 f0 e0 h2 m i h3 (fun h3_=>K (.exit 0) (buildS q0ua [.i n,.n l0,.f h0,.n u0,.n s0,.n v0,.i f0,.i e0,.f h2,.f h3_])):=by
 intro m
 induction m with
 | zero=>intros;rfl
 | succ m ih=>
  intro i h3
  rw [q0bc]
  refine (q0ub N n i l0 h0 u0 s0 v0 f0 e0 h2 h3 _ K).trans ?_
  exact congrArg (fun kn=>q0fm none n l0 h0 u0 s0 v0 f0 e0 h2 i h3 kn (fun h3_=>K (.exit 0) (buildS q0ua [.i n,.n l0,.f h0,.n u0,.n s0,.n v0,.i f0,.i e0,.f h2,.f h3_]))) (funext fun i=>funext fun h3=>ih i h3)
def q0ud (α:Type)(N:Nat):Env α:=(q0u7 α N).addLoop2 197 3 (loopSum2 ((q0u7 α N).ann 197 3) 1 q0u9 (fun l K=>match l with
  | [.i n,.i i,.n l0,.f h0,.n u0,.n s0,.n v0,.i f0,.i e0,.f h2,.f h3]=>q0fn none n l0 h0 u0 s0 v0 f0 e0 h2 N i h3 (fun h3_=>K (.exit 0) (buildS q0ua [.i n,.n l0,.f h0,.n u0,.n s0,.n v0,.i f0,.i e0,.f h2,.f h3_]))
  | _=>none) ((q0u7 α N).ls 197 3))
theorem q0ue {α:Type}(N:Nat):EnvOk Try.prog (q0ud α N):=(q0u8 N).addLoop2 Try.func197 (by kernel_rfl) (q0ba q0td q0te (q0u8 N) Try.func197 (by kernel_rfl) (d:=1) (ro:=1) fun l K r h=>by
 split at h
 ·exact (q0uc N _ _ _ _ _ _ _ _ _ K N _ _).trans h
 ·cases h)
def q0uf (α:Type)(N:Nat):Env α:=(q0ud α N).addAnn 197 7 { head:=[0,4,5,7],grow:=[],out:=[4,5],ret:=[4] }
theorem q0ug {α:Type}(N:Nat):EnvOk Try.prog (q0uf α N):=(q0ue N).addAnn
def q0uh:SPat:=⟨[.ptr ⟨⟨1,0⟩,0,0,3⟩,.undef,.undef,.undef,.ptr ⟨⟨2,0⟩,0,0,8⟩,.ptr ⟨⟨3,0⟩,0,0,8⟩,.undef,.int .i64]++List.replicate 34 .undef,[[.intsV .u8],[.vals [.sliceV 0 0 0 1 false,.int .i64,.int .u64]],[.ints .u8 8],[.ints .u8 8]]⟩
def q0ui:SPat:=⟨[.undef,.undef,.undef,.undef,.ptr ⟨⟨2,0⟩,0,0,8⟩,.ptr ⟨⟨3,0⟩,0,0,8⟩]++List.replicate 36 .undef,[[.intsV .u8],[.vals [.sliceV 0 0 0 1 false,.int .i64,.int .u64]],[.ints .u8 8],[.ints .u8 8]]⟩
theorem q0uj {α:Type}(N:Nat)(i:Int)(l0:Nat)(h0:NI)(u0 s0 v0:Nat)(f0 e0:Int)(h2 h3:NI)(kn:St->Option α)(K:AExit->St->Option α):
  roundK Try.prog (q0uf α N) 1 1 197 Try.f197 7 4 (buildS q0uh [.i i,.n l0,.f h0,.n u0,.n s0,.n v0,.i f0,.i e0,.f h2,.f h3]) kn K=q0fo none N l0 h0 u0 s0 v0 h2 i f0 e0 h3 (fun i f0 e0 h3=>kn (buildS q0uh [.i i,.n l0,.f h0,.n u0,.n s0,.n v0,.i f0,.i e0,.f h2,.f h3])) (fun R0 N0 h3_=>K (.exit 2) (buildS q0ui [.n l0,.f h0,.n u0,.n s0,.n v0,.i R0,.i N0,.f h2,.f h3_])):=by kernel_rfl
theorem q0uk {α:Type}(N l0:Nat)(h0:NI)(u0 s0 v0:Nat)(h2:NI)(K:AExit->St->Option α):∀ (m:Nat) (i f0 e0:Int) (h3:NI),
  loopN (trimSt ((q0uf α N).ann 197 7).head ((q0uf α N).ann 197 7).grow 4) (bodyK Try.prog (q0uf α N) 1 1 197 Try.f197 7) m (buildS q0uh [.i i,.n l0,.f h0,.n u0,.n s0,.n v0,.i f0,.i e0,.f h2,.f h3]) (leaveLoop ((q0uf α N).ann 197 7) 4 K)=q0fp none N l0 h0 u0 s0 v0 h2 m i f0 e0 h3 (fun R0 N0 h3_=>K (.exit 2) (buildS q0ui [.n l0,.f h0,.n u0,.n s0,.n v0,.i R0,.i N0,.f h2,.f h3_])):=by
 intro m
 induction m with
 | zero=>intros;rfl
 | succ m ih=>
  intro i f0 e0 h3
  rw [q0bc]
  refine (q0uj N i l0 h0 u0 s0 v0 f0 e0 h2 h3 _ K).trans ?_
  exact congrArg (fun kn=>q0fo none N l0 h0 u0 s0 v0 h2 i f0 e0 h3 kn (fun R0 N0 h3_=>K (.exit 2) (buildS q0ui [.n l0,.f h0,.n u0,.n s0,.n v0,.i R0,.i N0,.f h2,.f h3_]))) (funext fun i=>funext fun f0=>funext fun e0=>funext fun h3=>ih i f0 e0 h3)
def q0ul (α:Type)(N:Nat):Env α:=(q0uf α N).addLoop2 197 7 (loopSum2 ((q0uf α N).ann 197 7) 1 q0uh (fun l K=>match l with
  | [.i i,.n l0,.f h0,.n u0,.n s0,.n v0,.i f0,.i e0,.f h2,.f h3]=>q0fp none N l0 h0 u0 s0 v0 h2 N i f0 e0 h3 (fun R0 N0 h3_=>K (.exit 2) (buildS q0ui [.n l0,.f h0,.n u0,.n s0,.n v0,.i R0,.i N0,.f h2,.f h3_]))
  | _=>none) ((q0uf α N).ls 197 7))
theorem q0um {α:Type}(N:Nat):EnvOk Try.prog (q0ul α N):=(q0ug N).addLoop2 Try.func197 (by kernel_rfl) (q0ba q0td q0te (q0ug N) Try.func197 (by kernel_rfl) (d:=1) (ro:=1) fun l K r h=>by
 split at h
 ·exact (q0uk N _ _ _ _ _ _ K N _ _ _ _).trans h
 ·cases h)
def q0un:SPat:=⟨[.ptr ⟨⟨1,0⟩,0,0,3⟩,.int .i64],[[.intsV .u8],[.vals [.sliceV 0 0 0 1 false,.int .i64,.int .u64]]]⟩
def q0uo:SPat:=⟨[.agg [.ints .u8 8]],[[.intsV .u8],[.vals [.sliceV 0 0 0 1 false,.int .i64,.int .u64]]]⟩
theorem q0up {α:Type}(N:Nat)(n:Int)(l0:Nat)(h0:NI)(u0 s0 v0:Nat)(f0 e0:Int)(K:AV->Heap->Option α):
  callK Try.prog (q0ul α N) 1 197 1 (buildS q0un [.i n,.n l0,.f h0,.n u0,.n s0,.n v0,.i f0,.i e0]).t (buildS q0un [.i n,.n l0,.f h0,.n u0,.n s0,.n v0,.i f0,.i e0]).h K=q0fq none N n l0 h0 u0 s0 v0 f0 e0 (fun r__ R0 N0=>retK (buildS q0uo [.f r__,.n l0,.f h0,.n u0,.n s0,.n v0,.i R0,.i N0]) K):=by kernel_rfl
def q0uq (α:Type)(N:Nat):Env α:=(q0ul α N).addFun 197 false 1 q0un (fun l K=>match l with
  | [.i n,.n l0,.f h0,.n u0,.n s0,.n v0,.i f0,.i e0]=>q0fq none N n l0 h0 u0 s0 v0 f0 e0 (fun r__ R0 N0=>retK (buildS q0uo [.f r__,.n l0,.f h0,.n u0,.n s0,.n v0,.i R0,.i N0]) K)
  | _=>none)
theorem q0ur {α:Type}(N:Nat):EnvOk Try.prog (q0uq α N):=(q0um N).addFun q0td q0te (d:=1) fun l K r h=>by
 split at h
 ·exact (q0up N _ _ _ _ _ _ _ _ K).trans h
 ·cases h
def q0us (α:Type)(N:Nat):Env α:=(q0uq α N).addAnn 122 3 { head:=[1,4,5,6,7],grow:=[],out:=[1,4,5,6],ret:=[4] }
theorem q0ut {α:Type}(N:Nat):EnvOk Try.prog (q0us α N):=(q0ur N).addAnn
def q0uu:SPat:=⟨[.undef,.int .i64,.undef,.undef,.ptr ⟨⟨2,0⟩,0,0,1⟩,.ptr ⟨⟨3,0⟩,0,0,8⟩,.ptr ⟨⟨4,0⟩,0,0,8⟩,.int .i64]++List.replicate 66 .undef,[[.intsV .u8],[.vals [.sliceV 0 0 0 1 false,.int .i64,.int .u64]],[.vals [.int .i64],.ints .u8 8,.ints .u8 8],[.ints .u8 8],[.ints .u8 8]]⟩
def q0uv:SPat:=⟨[.undef,.int .i64,.undef,.undef,.ptr ⟨⟨2,0⟩,0,0,1⟩,.ptr ⟨⟨3,0⟩,0,0,8⟩,.ptr ⟨⟨4,0⟩,0,0,8⟩]++List.replicate 67 .undef,[[.intsV .u8],[.vals [.sliceV 0 0 0 1 false,.int .i64,.int .u64]],[.vals [.int .i64],.ints .u8 8,.ints .u8 8],[.ints .u8 8],[.ints .u8 8]]⟩
theorem q0uw {α:Type}(N:Nat)(t1 t7:Int)(l0:Nat)(h0:NI)(u0 s0 v0:Nat)(f0 e0 t0:Int)(q0 r0 h3 h4:NI)(kn:St->Option α)(K:AExit->St->Option α):
  roundK Try.prog (q0us α N) 1 1 122 Try.f122 3 5 (buildS q0uu [.i t1,.i t7,.n l0,.f h0,.n u0,.n s0,.n v0,.i f0,.i e0,.i t0,.f q0,.f r0,.f h3,.f h4]) kn K=q0fr none t1 l0 h0 u0 s0 v0 f0 e0 t0 q0 r0 h3 t7 h4 (fun t7 h4=>kn (buildS q0uu [.i t1,.i t7,.n l0,.f h0,.n u0,.n s0,.n v0,.i f0,.i e0,.i t0,.f q0,.f r0,.f h3,.f h4])) (fun h4_=>K (.exit 0) (buildS q0uv [.i t1,.n l0,.f h0,.n u0,.n s0,.n v0,.i f0,.i e0,.i t0,.f q0,.f r0,.f h3,.f h4_])):=by kernel_rfl
theorem q0ux {α:Type}(N:Nat)(t1:Int)(l0:Nat)(h0:NI)(u0 s0 v0:Nat)(f0 e0 t0:Int)(q0 r0 h3:NI)(K:AExit->St->Option α):∀ (m:Nat) (t7:Int) (h4:NI),
  loopN (trimSt ((q0us α N).ann 122 3).head ((q0us α N).ann 122 3).grow 5) (bodyK Try.prog (q0us α N) 1 1 122 Try.f122 3) m (buildS q0uu [.i t1,.i t7,.n l0,.f h0,.n u0,.n s0,.n v0,.i f0,.i e0,.i t0,.f q0,.f r0,.f h3,.f h4]) (leaveLoop ((q0us α N).ann 122 3) 5 K)=q0fs none t1 l0 h0 u0 s0 v0 f0 e0 t0 q0 r0 h3 m t7 h4 (fun h4_=>K (.exit 0) (buildS q0uv [.i t1,.n l0,.f h0,.n u0,.n s0,.n v0,.i f0,.i e0,.i t0,.f q0,.f r0,.f h3,.f h4_])):=by
 intro m
 induction m with
 | zero=>intros;rfl
 | succ m ih=>
  intro t7 h4
  rw [q0bc]
  refine (q0uw N t1 t7 l0 h0 u0 s0 v0 f0 e0 t0 q0 r0 h3 h4 _ K).trans ?_
  exact congrArg (fun kn=>q0fr none t1 l0 h0 u0 s0 v0 f0 e0 t0 q0 r0 h3 t7 h4 kn (fun h4_=>K (.exit 0) (buildS q0uv [.i t1,.n l0,.f h0,.n u0,.n s0,.n v0,.i f0,.i e0,.i t0,.f q0,.f r0,.f h3,.f h4_]))) (funext fun t7=>funext fun h4=>ih t7 h4)
def q0uy (α:Type)(N:Nat):Env α:=(q0us α N).addLoop2 122 3 (loopSum2 ((q0us α N).ann 122 3) 1 q0uu (fun l K=>match l with
  | [.i t1,.i t7,.n l0,.f h0,.n u0,.n s0,.n v0,.i f0,.i e0,.i t0,.f q0,.f r0,.f h3,.f h4]=>q0fs none t1 l0 h0 u0 s0 v0 f0 e0 t0 q0 r0 h3 N t7 h4 (fun h4_=>K (.exit 0) (buildS q0uv [.i t1,.n l0,.f h0,.n u0,.n s0,.n v0,.i f0,.i e0,.i t0,.f q0,.f r0,.f h3,.f h4_]))
  | _=>none) ((q0us α N).ls 122 3))
theorem q0uz {α:Type}(N:Nat):EnvOk Try.prog (q0uy α N):=(q0ut N).addLoop2 Try.func122 (by kernel_rfl) (q0ba q0td q0te (q0ut N) Try.func122 (by kernel_rfl) (d:=1) (ro:=1) fun l K r h=>by
 split at h
 ·exact (q0ux N _ _ _ _ _ _ _ _ _ _ _ _ K N _ _).trans h
 ·cases h)
def q0v0:SPat:=⟨[.int .i64,.int .i64,.int .i64],[]⟩
def q0v1:SPat:=⟨[.bool],[]⟩
theorem q0v2 {α:Type}(N:Nat)(n low high:Int)(K:AV->Heap->Option α):
  callK Try.prog (q0uy α N) 1 119 0 (buildS q0v0 [.i n,.i low,.i high]).t (buildS q0v0 [.i n,.i low,.i high]).h K=q0c6 none N n low high (fun r__=>retK (buildS q0v1 [.b r__]) K):=by kernel_rfl
def q0v3 (α:Type)(N:Nat):Env α:=(q0uy α N).addFun 119 true 0 q0v0 (fun l K=>match l with
  | [.i n,.i low,.i high]=>q0c6 none N n low high (fun r__=>retK (buildS q0v1 [.b r__]) K)
  | _=>none)
theorem q0v4 {α:Type}(N:Nat):EnvOk Try.prog (q0v3 α N):=(q0uz N).addFun q0td q0te (d:=1) fun l K r h=>by
 split at h
 ·exact (q0v2 N _ _ _ K).trans h
 ·cases h
def q0v5 (α:Type)(N:Nat):Env α:=(q0v3 α N).addAnn 193 3 { head:=[1,2,5,6],grow:=[],out:=[],ret:=[4] }
theorem q0v6 {α:Type}(N:Nat):EnvOk Try.prog (q0v5 α N):=(q0v4 N).addAnn
def q0v7:SPat:=⟨[.undef,.int .i64,.ptr ⟨⟨0,0⟩,0,0,8⟩,.undef,.undef,.ptr ⟨⟨1,0⟩,0,0,8⟩,.int .i64]++List.replicate 29 .undef,[[.ints .u8 8],[.bools 8]]⟩
def q0v8:SPat:=⟨[.undef,.undef,.undef,.undef,.boolC false]++List.replicate 31 .undef,[[.ints .u8 8],[.bools 8]]⟩
def q0v9:SPat:=⟨[]++List.replicate 36 .undef,[[.ints .u8 8],[.bools 8]]⟩
theorem q0va {α:Type}(N:Nat)(n i:Int)(h0:NI)(h1:Nat->Bool)(kn:St->Option α)(K:AExit->St->Option α):
  roundK Try.prog (q0v5 α N) 1 0 193 Try.f193 3 2 (buildS q0v7 [.i n,.i i,.f h0,.g h1]) kn K=q0c8 none n h0 i h1 (fun i h1=>kn (buildS q0v7 [.i n,.i i,.f h0,.g h1])) (fun h1_=>K .ret (buildS q0v8 [.f h0,.g h1_])) (fun h1_=>K (.exit 0) (buildS q0v9 [.f h0,.g h1_])):=by kernel_rfl
theorem q0vb {α:Type}(N:Nat)(n:Int)(h0:NI)(K:AExit->St->Option α):∀ (m:Nat) (i:Int) (h1:Nat->Bool),
  loopN (trimSt ((q0v5 α N).ann 193 3).head ((q0v5 α N).ann 193 3).grow 2) (bodyK Try.prog (q0v5 α N) 1 0 193 Try.f193 3) m (buildS q0v7 [.i n,.i i,.f h0,.g h1]) (leaveLoop ((q0v5 α N).ann 193 3) 2 K)=q0c9 none n h0 m i h1 (fun h1_=>K .ret (buildS q0v8 [.f h0,.g h1_])) (fun h1_=>K (.exit 0) (buildS q0v9 [.f h0,.g h1_])):=by
 intro m
 induction m with
 | zero=>intros;rfl
 | succ m ih=>
  intro i h1
  rw [q0bc]
  refine (q0va N n i h0 h1 _ K).trans ?_
  exact congrArg (fun kn=>q0c8 none n h0 i h1 kn (fun h1_=>K .ret (buildS q0v8 [.f h0,.g h1_])) (fun h1_=>K (.exit 0) (buildS q0v9 [.f h0,.g h1_]))) (funext fun i=>funext fun h1=>ih i h1)
def q0vc (α:Type)(N:Nat):Env α:=(q0v5 α N).addLoop2 193 3 (loopSum2 ((q0v5 α N).ann 193 3) 0 q0v7 (fun l K=>match l with
  | [.i n,.i i,.f h0,.g h1]=>q0c9 none n h0 N i h1 (fun h1_=>K .ret (buildS q0v8 [.f h0,.g h1_])) (fun h1_=>K (.exit 0) (buildS q0v9 [.f h0,.g h1_]))
  | _=>none) ((q0v5 α N).ls 193 3))
theorem q0vd {α:Type}(N:Nat):EnvOk Try.prog (q0vc α N):=(q0v6 N).addLoop2 Try.func193 (by kernel_rfl) (q0ba q0td q0te (q0v6 N) Try.func193 (by kernel_rfl) (d:=1) (ro:=0) fun l K r h=>by
 split at h
 ·exact (q0vb N _ _ K N _ _).trans h
 ·cases h)
def q0ve:SPat:=⟨[.agg [.ints .u8 8],.int .i64],[]⟩
def q0vf:SPat:=⟨[.bool],[]⟩
theorem q0vg {α:Type}(N:Nat)(list:NI)(n:Int)(K:AV->Heap->Option α):
  callK Try.prog (q0vc α N) 1 193 0 (buildS q0ve [.f list,.i n]).t (buildS q0ve [.f list,.i n]).h K=q0ca none N list n (fun r__=>retK (buildS q0vf [.b r__]) K):=by kernel_rfl
def q0vh (α:Type)(N:Nat):Env α:=(q0vc α N).addFun 193 true 0 q0ve (fun l K=>match l with
  | [.f list,.i n]=>q0ca none N list n (fun r__=>retK (buildS q0vf [.b r__]) K)
  | _=>none)
theorem q0vi {α:Type}(N:Nat):EnvOk Try.prog (q0vh α N):=(q0vd N).addFun q0td q0te (d:=1) fun l K r h=>by
 split at h
 ·exact (q0vg N _ _ K).trans h
 ·cases h
def q0vj (α:Type)(N:Nat):Env α:=(q0vh α N).addAnn 107 4 { head:=[1,3],grow:=[],out:=[],ret:=[2] }
theorem q0vk {α:Type}(N:Nat):EnvOk Try.prog (q0vj α N):=(q0vi N).addAnn
def q0vl:SPat:=⟨[.undef,.ptr ⟨⟨0,0⟩,0,0,1⟩,.undef,.int .i64]++List.replicate 35 .undef,[[.vals [.int .i64],.ints .u8 8,.ints .u8 8]]⟩
def q0vm:SPat:=⟨[.undef,.undef,.boolC false]++List.replicate 36 .undef,[[.vals [.int .i64],.ints .u8 8,.ints .u8 8]]⟩
def q0vn:SPat:=⟨[]++List.replicate 39 .undef,[[.vals [.int .i64],.ints .u8 8,.ints .u8 8]]⟩
theorem q0vo {α:Type}(N:Nat)(i d0:Int)(c0 b0:NI)(kn:St->Option α)(K:AExit->St->Option α):
  roundK Try.prog (q0vj α N) 1 0 107 Try.f107 4 1 (buildS q0vl [.i i,.i d0,.f c0,.f b0]) kn K=q0cb none d0 c0 b0 i (fun i=>kn (buildS q0vl [.i i,.i d0,.f c0,.f b0])) (K .ret (buildS q0vm [.i d0,.f c0,.f b0])) (K (.exit 0) (buildS q0vn [.i d0,.f c0,.f b0])):=by kernel_rfl
theorem q0vp {α:Type}(N:Nat)(d0:Int)(c0 b0:NI)(K:AExit->St->Option α):∀ (m:Nat) (i:Int),
  loopN (trimSt ((q0vj α N).ann 107 4).head ((q0vj α N).ann 107 4).grow 1) (bodyK Try.prog (q0vj α N) 1 0 107 Try.f107 4) m (buildS q0vl [.i i,.i d0,.f c0,.f b0]) (leaveLoop ((q0vj α N).ann 107 4) 1 K)=q0cc none d0 c0 b0 m i (K .ret (buildS q0vm [.i d0,.f c0,.f b0])) (K (.exit 0) (buildS q0vn [.i d0,.f c0,.f b0])):=by
 intro m
 induction m with
 | zero=>intros;rfl
 | succ m ih=>
  intro i
  rw [q0bc]
  refine (q0vo N i d0 c0 b0 _ K).trans ?_
  exact congrArg (fun kn=>q0cb none d0 c0 b0 i kn (K .ret (buildS q0vm [.i d0,.f c0,.f b0])) (K (.exit 0) (buildS q0vn [.i d0,.f c0,.f b0]))) (funext fun i=>ih i)
def q0vq (α:Type)(N:Nat):Env α:=(q0vj α N).addLoop2 107 4 (loopSum2 ((q0vj α N).ann 107 4) 0 q0vl (fun l K=>match l with
  | [.i i,.i d0,.f c0,.f b0]=>q0cc none d0 c0 b0 N i (K .ret (buildS q0vm [.i d0,.f c0,.f b0])) (K (.exit 0) (buildS q0vn [.i d0,.f c0,.f b0]))
  | _=>none) ((q0vj α N).ls 107 4))
theorem q0vr {α:Type}(N:Nat):EnvOk Try.prog (q0vq α N):=(q0vk N).addLoop2 Try.func107 (by kernel_rfl) (q0ba q0td q0te (q0vk N) Try.func107 (by kernel_rfl) (d:=1) (ro:=0) fun l K r h=>by
 split at h
 ·exact (q0vp N _ _ _ K N _).trans h
 ·cases h)
def q0vs:SPat:=⟨[.agg [.vals [.int .i64],.ints .u8 8,.ints .u8 8]],[]⟩
def q0vt:SPat:=⟨[.bool],[]⟩
theorem q0vu {α:Type}(N:Nat)(g0:Int)(i0 j0:NI)(K:AV->Heap->Option α):
  callK Try.prog (q0vq α N) 1 107 0 (buildS q0vs [.i g0,.f i0,.f j0]).t (buildS q0vs [.i g0,.f i0,.f j0]).h K=q0cd none N g0 i0 j0 (fun r__=>retK (buildS q0vt [.b r__]) K):=by kernel_rfl
def q0vv (α:Type)(N:Nat):Env α:=(q0vq α N).addFun 107 true 0 q0vs (fun l K=>match l with
  | [.i g0,.f i0,.f j0]=>q0cd none N g0 i0 j0 (fun r__=>retK (buildS q0vt [.b r__]) K)
  | _=>none)
theorem q0vw {α:Type}(N:Nat):EnvOk Try.prog (q0vv α N):=(q0vr N).addFun q0td q0te (d:=1) fun l K r h=>by
 split at h
 ·exact (q0vu N _ _ _ K).trans h
 ·cases h
def q0vx (α:Type)(N:Nat):Env α:=(q0vv α N).addAnn 122 14 { head:=[1,4,5,11,12],grow:=[],out:=[4,11],ret:=[4] }
theorem q0vy {α:Type}(N:Nat):EnvOk Try.prog (q0vx α N):=(q0vw N).addAnn
def q0vz:SPat:=⟨[.undef,.int .i64,.undef,.undef,.ptr ⟨⟨2,0⟩,0,0,1⟩,.ptr ⟨⟨3,0⟩,0,0,8⟩,.undef,.undef,.undef,.undef,.undef,.ptr ⟨⟨5,0⟩,0,0,1⟩,.int .i64]++List.replicate 61 .undef,[[.intsV .u8],[.vals [.sliceV 0 0 0 1 false,.int .i64,.int .u64]],[.vals [.int .i64],.ints .u8 8,.ints .u8 8],[.ints .u8 8],[.ints .u8 8],[.vals [.int .i64],.ints .u8 8,.ints .u8 8]]⟩
def q0w0:SPat:=⟨[.undef,.undef,.undef,.undef,.ptr ⟨⟨2,0⟩,0,0,1⟩,.undef,.undef,.undef,.undef,.undef,.undef,.ptr ⟨⟨5,0⟩,0,0,1⟩]++List.replicate 62 .undef,[[.intsV .u8],[.vals [.sliceV 0 0 0 1 false,.int .i64,.int .u64]],[.vals [.int .i64],.ints .u8 8,.ints .u8 8],[.ints .u8 8],[.ints .u8 8],[.vals [.int .i64],.ints .u8 8,.ints .u8 8]]⟩
theorem q0w1 {α:Type}(N:Nat)(t1 b1:Int)(l0:Nat)(h0:NI)(u0 s0 v0:Nat)(f0 e0 t0:Int)(q0 r0 h3 h4:NI)(w0:Int)(o0 n0:NI)(kn:St->Option α)(K:AExit->St->Option α):
  roundK Try.prog (q0vx α N) 1 1 122 Try.f122 14 6 (buildS q0vz [.i t1,.i b1,.n l0,.f h0,.n u0,.n s0,.n v0,.i f0,.i e0,.i t0,.f q0,.f r0,.f h3,.f h4,.i w0,.f o0,.f n0]) kn K=q0ft none t1 l0 h0 u0 s0 v0 f0 e0 t0 q0 r0 h3 h4 w0 o0 b1 n0 (fun b1 n0=>kn (buildS q0vz [.i t1,.i b1,.n l0,.f h0,.n u0,.n s0,.n v0,.i f0,.i e0,.i t0,.f q0,.f r0,.f h3,.f h4,.i w0,.f o0,.f n0])) (fun r2=>K (.exit 2) (buildS q0w0 [.n l0,.f h0,.n u0,.n s0,.n v0,.i f0,.i e0,.i t0,.f q0,.f r0,.f h3,.f h4,.i w0,.f o0,.f r2])):=by kernel_rfl
theorem q0w2 {α:Type}(N:Nat)(t1:Int)(l0:Nat)(h0:NI)(u0 s0 v0:Nat)(f0 e0 t0:Int)(q0 r0 h3 h4:NI)(w0:Int)(o0:NI)(K:AExit->St->Option α):∀ (m:Nat) (b1:Int) (n0:NI),
  loopN (trimSt ((q0vx α N).ann 122 14).head ((q0vx α N).ann 122 14).grow 6) (bodyK Try.prog (q0vx α N) 1 1 122 Try.f122 14) m (buildS q0vz [.i t1,.i b1,.n l0,.f h0,.n u0,.n s0,.n v0,.i f0,.i e0,.i t0,.f q0,.f r0,.f h3,.f h4,.i w0,.f o0,.f n0]) (leaveLoop ((q0vx α N).ann 122 14) 6 K)=q0fu none t1 l0 h0 u0 s0 v0 f0 e0 t0 q0 r0 h3 h4 w0 o0 m b1 n0 (fun r2=>K (.exit 2) (buildS q0w0 [.n l0,.f h0,.n u0,.n s0,.n v0,.i f0,.i e0,.i t0,.f q0,.f r0,.f h3,.f h4,.i w0,.f o0,.f r2])):=by
 intro m
 induction m with
 | zero=>intros;rfl
 | succ m ih=>
  intro b1 n0
  rw [q0bc]
  refine (q0w1 N t1 b1 l0 h0 u0 s0 v0 f0 e0 t0 q0 r0 h3 h4 w0 o0 n0 _ K).trans ?_
  exact congrArg (fun kn=>q0ft none t1 l0 h0 u0 s0 v0 f0 e0 t0 q0 r0 h3 h4 w0 o0 b1 n0 kn (fun r2=>K (.exit 2) (buildS q0w0 [.n l0,.f h0,.n u0,.n s0,.n v0,.i f0,.i e0,.i t0,.f q0,.f r0,.f h3,.f h4,.i w0,.f o0,.f r2]))) (funext fun b1=>funext fun n0=>ih b1 n0)
def q0w3 (α:Type)(N:Nat):Env α:=(q0vx α N).addLoop2 122 14 (loopSum2 ((q0vx α N).ann 122 14) 1 q0vz (fun l K=>match l with
  | [.i t1,.i b1,.n l0,.f h0,.n u0,.n s0,.n v0,.i f0,.i e0,.i t0,.f q0,.f r0,.f h3,.f h4,.i w0,.f o0,.f n0]=>q0fu none t1 l0 h0 u0 s0 v0 f0 e0 t0 q0 r0 h3 h4 w0 o0 N b1 n0 (fun r2=>K (.exit 2) (buildS q0w0 [.n l0,.f h0,.n u0,.n s0,.n v0,.i f0,.i e0,.i t0,.f q0,.f r0,.f h3,.f h4,.i w0,.f o0,.f r2]))
  | _=>none) ((q0vx α N).ls 122 14))
theorem q0w4 {α:Type}(N:Nat):EnvOk Try.prog (q0w3 α N):=(q0vy N).addLoop2 Try.func122 (by kernel_rfl) (q0ba q0td q0te (q0vy N) Try.func122 (by kernel_rfl) (d:=1) (ro:=1) fun l K r h=>by
 split at h
 ·exact (q0w2 N _ _ _ _ _ _ _ _ _ _ _ _ _ _ _ K N _ _).trans h
 ·cases h)
def q0w5:SPat:=⟨[.ptr ⟨⟨1,0⟩,0,0,3⟩,.int .i64],[[.intsV .u8],[.vals [.sliceV 0 0 0 1 false,.int .i64,.int .u64]]]⟩
def q0w6:SPat:=⟨[.agg [.vals [.int .i64],.ints .u8 8,.ints .u8 8]],[[.intsV .u8],[.vals [.sliceV 0 0 0 1 false,.int .i64,.int .u64]]]⟩
theorem q0w7 {α:Type}(N:Nat)(a1:Int)(l0:Nat)(h0:NI)(u0 s0 v0:Nat)(f0 e0:Int)(K:AV->Heap->Option α):
  callK Try.prog (q0w3 α N) 1 122 1 (buildS q0w5 [.i a1,.n l0,.f h0,.n u0,.n s0,.n v0,.i f0,.i e0]).t (buildS q0w5 [.i a1,.n l0,.f h0,.n u0,.n s0,.n v0,.i f0,.i e0]).h K=q0fv none N a1 l0 h0 u0 s0 v0 f0 e0 (fun C0 B1 R0 N0=>retK (buildS q0w6 [.i a1,.f C0,.f B1,.n l0,.f h0,.n u0,.n s0,.n v0,.i R0,.i N0]) K):=by kernel_rfl
def q0w8 (α:Type)(N:Nat):Env α:=(q0w3 α N).addFun 122 false 1 q0w5 (fun l K=>match l with
  | [.i a1,.n l0,.f h0,.n u0,.n s0,.n v0,.i f0,.i e0]=>q0fv none N a1 l0 h0 u0 s0 v0 f0 e0 (fun C0 B1 R0 N0=>retK (buildS q0w6 [.i a1,.f C0,.f B1,.n l0,.f h0,.n u0,.n s0,.n v0,.i R0,.i N0]) K)
  | _=>none)
theorem q0w9 {α:Type}(N:Nat):EnvOk Try.prog (q0w8 α N):=(q0w4 N).addFun q0td q0te (d:=1) fun l K r h=>by
 split at h
 ·exact (q0w7 N _ _ _ _ _ _ _ _ K).trans h
 ·cases h
def q0wa:SPat:=⟨[.ptr ⟨⟨1,0⟩,0,0,3⟩,.slice ⟨⟨2,0⟩,0,0,5⟩ 5 5 1 true],[[.intsV .u8],[.vals [.sliceV 0 0 0 1 false,.int .i64,.int .u64]],[.vec .i64]]⟩
def q0wb:SPat:=⟨[.int .i64],[[.intsV .u8],[.vals [.sliceV 0 0 0 1 false,.int .i64,.int .u64]],[.vec .i64]]⟩
theorem q0wc {α:Type}(N l0:Nat)(h0:NI)(u0 s0 v0:Nat)(f0 e0:Int)(h2:List Int)(K:AV->Heap->Option α):
  callK Try.prog (q0w8 α N) 1 115 1 (buildS q0wa [.n l0,.f h0,.n u0,.n s0,.n v0,.i f0,.i e0,.l h2]).t (buildS q0wa [.n l0,.f h0,.n u0,.n s0,.n v0,.i f0,.i e0,.l h2]).h K=q0fw none N l0 h0 u0 s0 v0 f0 e0 h2 (fun r__ R0 N0=>retK (buildS q0wb [.i r__,.n l0,.f h0,.n u0,.n s0,.n v0,.i R0,.i N0,.l h2]) K):=by kernel_rfl
def q0wd (α:Type)(N:Nat):Env α:=(q0w8 α N).addFun 115 false 1 q0wa (fun l K=>match l with
  | [.n l0,.f h0,.n u0,.n s0,.n v0,.i f0,.i e0,.l h2]=>q0fw none N l0 h0 u0 s0 v0 f0 e0 h2 (fun r__ R0 N0=>retK (buildS q0wb [.i r__,.n l0,.f h0,.n u0,.n s0,.n v0,.i R0,.i N0,.l h2]) K)
  | _=>none)
theorem q0we {α:Type}(N:Nat):EnvOk Try.prog (q0wd α N):=(q0w9 N).addFun q0td q0te (d:=1) fun l K r h=>by
 split at h
 ·exact (q0wc N _ _ _ _ _ _ _ _ K).trans h
 ·cases h
def q0wf (α:Type)(N:Nat):Env α:=(q0wd α N).addAnn 192 7 { head:=[0,2,3,4,5,6],grow:=[],out:=[0,2,4,5],ret:=[2] }
theorem q0wg {α:Type}(N:Nat):EnvOk Try.prog (q0wf α N):=(q0we N).addAnn
def q0wh:SPat:=⟨[.ptr ⟨⟨1,0⟩,0,0,3⟩,.undef,.ptr ⟨⟨2,0⟩,0,0,1⟩,.int .i64,.int .i64,.ptr ⟨⟨3,0⟩,0,0,1⟩,.int .i64]++List.replicate 55 .undef,[[.intsV .u8],[.vals [.sliceV 0 0 0 1 false,.int .i64,.int .u64]],[.vals [.int .i64],.ints .u8 8,.ints .u8 8],[.vals [.int .i64],.ints .u8 8,.ints .u8 8]]⟩
def q0wi:SPat:=⟨[.ptr ⟨⟨1,0⟩,0,0,3⟩,.undef,.ptr ⟨⟨2,0⟩,0,0,1⟩,.undef,.int .i64,.ptr ⟨⟨3,0⟩,0,0,1⟩]++List.replicate 56 .undef,[[.intsV .u8],[.vals [.sliceV 0 0 0 1 false,.int .i64,.int .u64]],[.vals [.int .i64],.ints .u8 8,.ints .u8 8],[.vals [.int .i64],.ints .u8 8,.ints .u8 8]]⟩
theorem q0wj {α:Type}(N:Nat)(p n i:Int)(l0:Nat)(h0:NI)(u0 s0 v0:Nat)(f0 e0 t0:Int)(q0 r0:NI)(z0:Int)(x0 y0:NI)(kn:St->Option α)(K:AExit->St->Option α):
  roundK Try.prog (q0wf α N) 1 1 192 Try.f192 7 4 (buildS q0wh [.i p,.i n,.i i,.n l0,.f h0,.n u0,.n s0,.n v0,.i f0,.i e0,.i t0,.f q0,.f r0,.i z0,.f x0,.f y0]) kn K=q0fx none p n l0 h0 u0 s0 v0 f0 e0 t0 q0 r0 z0 i x0 y0 (fun i x0 y0=>kn (buildS q0wh [.i p,.i n,.i i,.n l0,.f h0,.n u0,.n s0,.n v0,.i f0,.i e0,.i t0,.f q0,.f r0,.i z0,.f x0,.f y0])) (fun J2 K2=>K (.exit 1) (buildS q0wi [.i n,.n l0,.f h0,.n u0,.n s0,.n v0,.i f0,.i e0,.i t0,.f q0,.f r0,.i z0,.f J2,.f K2])):=by kernel_rfl
theorem q0wk {α:Type}(N:Nat)(p n:Int)(l0:Nat)(h0:NI)(u0 s0 v0:Nat)(f0 e0 t0:Int)(q0 r0:NI)(z0:Int)(K:AExit->St->Option α):∀ (m:Nat) (i:Int) (x0 y0:NI),
  loopN (trimSt ((q0wf α N).ann 192 7).head ((q0wf α N).ann 192 7).grow 4) (bodyK Try.prog (q0wf α N) 1 1 192 Try.f192 7) m (buildS q0wh [.i p,.i n,.i i,.n l0,.f h0,.n u0,.n s0,.n v0,.i f0,.i e0,.i t0,.f q0,.f r0,.i z0,.f x0,.f y0]) (leaveLoop ((q0wf α N).ann 192 7) 4 K)=q0fy none p n l0 h0 u0 s0 v0 f0 e0 t0 q0 r0 z0 m i x0 y0 (fun J2 K2=>K (.exit 1) (buildS q0wi [.i n,.n l0,.f h0,.n u0,.n s0,.n v0,.i f0,.i e0,.i t0,.f q0,.f r0,.i z0,.f J2,.f K2])):=by
 intro m
 induction m with
 | zero=>intros;rfl
 | succ m ih=>
  intro i x0 y0
  rw [q0bc]
  refine (q0wj N p n i l0 h0 u0 s0 v0 f0 e0 t0 q0 r0 z0 x0 y0 _ K).trans ?_
  exact congrArg (fun kn=>q0fx none p n l0 h0 u0 s0 v0 f0 e0 t0 q0 r0 z0 i x0 y0 kn (fun J2 K2=>K (.exit 1) (buildS q0wi [.i n,.n l0,.f h0,.n u0,.n s0,.n v0,.i f0,.i e0,.i t0,.f q0,.f r0,.i z0,.f J2,.f K2]))) (funext fun i=>funext fun x0=>funext fun y0=>ih i x0 y0)
def q0wl (α:Type)(N:Nat):Env α:=(q0wf α N).addLoop2 192 7 (loopSum2 ((q0wf α N).ann 192 7) 1 q0wh (fun l K=>match l with
  | [.i p,.i n,.i i,.n l0,.f h0,.n u0,.n s0,.n v0,.i f0,.i e0,.i t0,.f q0,.f r0,.i z0,.f x0,.f y0]=>q0fy none p n l0 h0 u0 s0 v0 f0 e0 t0 q0 r0 z0 N i x0 y0 (fun J2 K2=>K (.exit 1) (buildS q0wi [.i n,.n l0,.f h0,.n u0,.n s0,.n v0,.i f0,.i e0,.i t0,.f q0,.f r0,.i z0,.f J2,.f K2]))
  | _=>none) ((q0wf α N).ls 192 7))
theorem q0wm {α:Type}(N:Nat):EnvOk Try.prog (q0wl α N):=(q0wg N).addLoop2 Try.func192 (by kernel_rfl) (q0ba q0td q0te (q0wg N) Try.func192 (by kernel_rfl) (d:=1) (ro:=1) fun l K r h=>by
 split at h
 ·exact (q0wk N _ _ _ _ _ _ _ _ _ _ _ _ _ K N _ _ _).trans h
 ·cases h)
def q0wn (α:Type)(N:Nat):Env α:=(q0wl α N).addAnn 120 3 { head:=[1,2,3,6,7,8,9],grow:=[],out:=[6,8],ret:=[6] }
theorem q0wo {α:Type}(N:Nat):EnvOk Try.prog (q0wn α N):=(q0wm N).addAnn
def q0wp:SPat:=⟨[.undef,.int .i64,.int .i64,.ptr ⟨⟨0,0⟩,0,0,1⟩,.undef,.undef,.ptr ⟨⟨1,0⟩,0,0,1⟩,.int .i64,.ptr ⟨⟨2,0⟩,0,0,1⟩,.int .i64]++List.replicate 55 .undef,[[.vals [.int .i64],.ints .u8 8,.ints .u8 8],[.vals [.int .i64],.ints .u8 8,.ints .u8 8],[.vals [.int .i64],.ints .u8 8,.ints .u8 8]]⟩
def q0wq:SPat:=⟨[.undef,.undef,.undef,.undef,.undef,.undef,.ptr ⟨⟨1,0⟩,0,0,1⟩,.undef,.ptr ⟨⟨2,0⟩,0,0,1⟩]++List.replicate 56 .undef,[[.vals [.int .i64],.ints .u8 8,.ints .u8 8],[.vals [.int .i64],.ints .u8 8,.ints .u8 8],[.vals [.int .i64],.ints .u8 8,.ints .u8 8]]⟩
theorem q0wr {α:Type}(N:Nat)(t1 t2 t7 t9 d0:Int)(c0 b0:NI)(m0:Int)(f0 e0:NI)(t0:Int)(q0 r0:NI)(kn:St->Option α)(K:AExit->St->Option α):
  roundK Try.prog (q0wn α N) 1 0 120 Try.f120 3 3 (buildS q0wp [.i t1,.i t2,.i t7,.i t9,.i d0,.f c0,.f b0,.i m0,.f f0,.f e0,.i t0,.f q0,.f r0]) kn K=q0d8 none t1 t2 t7 d0 c0 b0 m0 f0 e0 t0 t9 q0 r0 (fun t9 q0 r0=>kn (buildS q0wp [.i t1,.i t2,.i t7,.i t9,.i d0,.f c0,.f b0,.i m0,.f f0,.f e0,.i t0,.f q0,.f r0])) (fun i2 j2=>K (.exit 0) (buildS q0wq [.i d0,.f c0,.f b0,.i m0,.f f0,.f e0,.i t0,.f i2,.f j2])):=by kernel_rfl
theorem q0ws {α:Type}(N:Nat)(t1 t2 t7 d0:Int)(c0 b0:NI)(m0:Int)(f0 e0:NI)(t0:Int)(K:AExit->St->Option α):∀ (m:Nat) (t9:Int) (q0 r0:NI),
  loopN (trimSt ((q0wn α N).ann 120 3).head ((q0wn α N).ann 120 3).grow 3) (bodyK Try.prog (q0wn α N) 1 0 120 Try.f120 3) m (buildS q0wp [.i t1,.i t2,.i t7,.i t9,.i d0,.f c0,.f b0,.i m0,.f f0,.f e0,.i t0,.f q0,.f r0]) (leaveLoop ((q0wn α N).ann 120 3) 3 K)=q0d9 none t1 t2 t7 d0 c0 b0 m0 f0 e0 t0 m t9 q0 r0 (fun i2 j2=>K (.exit 0) (buildS q0wq [.i d0,.f c0,.f b0,.i m0,.f f0,.f e0,.i t0,.f i2,.f j2])):=by
 intro m
 induction m with
 | zero=>intros;rfl
 | succ m ih=>
  intro t9 q0 r0
  rw [q0bc]
  refine (q0wr N t1 t2 t7 t9 d0 c0 b0 m0 f0 e0 t0 q0 r0 _ K).trans ?_
  exact congrArg (fun kn=>q0d8 none t1 t2 t7 d0 c0 b0 m0 f0 e0 t0 t9 q0 r0 kn (fun i2 j2=>K (.exit 0) (buildS q0wq [.i d0,.f c0,.f b0,.i m0,.f f0,.f e0,.i t0,.f i2,.f j2]))) (funext fun t9=>funext fun q0=>funext fun r0=>ih t9 q0 r0)
def q0wt (α:Type)(N:Nat):Env α:=(q0wn α N).addLoop2 120 3 (loopSum2 ((q0wn α N).ann 120 3) 0 q0wp (fun l K=>match l with
  | [.i t1,.i t2,.i t7,.i t9,.i d0,.f c0,.f b0,.i m0,.f f0,.f e0,.i t0,.f q0,.f r0]=>q0d9 none t1 t2 t7 d0 c0 b0 m0 f0 e0 t0 N t9 q0 r0 (fun i2 j2=>K (.exit 0) (buildS q0wq [.i d0,.f c0,.f b0,.i m0,.f f0,.f e0,.i t0,.f i2,.f j2]))
  | _=>none) ((q0wn α N).ls 120 3))
theorem q0wu {α:Type}(N:Nat):EnvOk Try.prog (q0wt α N):=(q0wo N).addLoop2 Try.func120 (by kernel_rfl) (q0ba q0td q0te (q0wo N) Try.func120 (by kernel_rfl) (d:=1) (ro:=0) fun l K r h=>by
 split at h
 ·exact (q0ws N _ _ _ _ _ _ _ _ _ _ K N _ _ _).trans h
 ·cases h)
def q0wv:SPat:=⟨[.agg [.vals [.int .i64],.ints .u8 8,.ints .u8 8],.int .i64,.int .i64],[]⟩
def q0ww:SPat:=⟨[.agg [.vals [.int .i64],.ints .u8 8,.ints .u8 8]],[]⟩
theorem q0wx {α:Type}(N:Nat)(g0:Int)(i0 j0:NI)(a1 a2:Int)(K:AV->Heap->Option α):
  callK Try.prog (q0wt α N) 1 120 0 (buildS q0wv [.i g0,.f i0,.f j0,.i a1,.i a2]).t (buildS q0wv [.i g0,.f i0,.f j0,.i a1,.i a2]).h K=q0da none N g0 i0 j0 a1 a2 (fun C0 B1=>retK (buildS q0ww [.i g0,.f C0,.f B1]) K):=by kernel_rfl
def q0wy (α:Type)(N:Nat):Env α:=(q0wt α N).addFun 120 true 0 q0wv (fun l K=>match l with
  | [.i g0,.f i0,.f j0,.i a1,.i a2]=>q0da none N g0 i0 j0 a1 a2 (fun C0 B1=>retK (buildS q0ww [.i g0,.f C0,.f B1]) K)
  | _=>none)
theorem q0wz {α:Type}(N:Nat):EnvOk Try.prog (q0wy α N):=(q0wu N).addFun q0td q0te (d:=1) fun l K r h=>by
 split at h
 ·exact (q0wx N _ _ _ _ _ K).trans h
 ·cases h
def q0x0:SPat:=⟨[.ptr ⟨⟨1,0⟩,0,0,3⟩],[[.intsV .u8],[.vals [.sliceV 0 0 0 1 false,.int .i64,.int .u64]]]⟩
def q0x1:SPat:=⟨[.agg [.vals [.int .i64],.ints .u8 8,.ints .u8 8]],[[.intsV .u8],[.vals [.sliceV 0 0 0 1 false,.int .i64,.int .u64]]]⟩
theorem q0x2 {α:Type}(N l0:Nat)(h0:NI)(u0 s0 v0:Nat)(f0 e0:Int)(K:AV->Heap->Option α):
  callK Try.prog (q0wy α N) 1 192 1 (buildS q0x0 [.n l0,.f h0,.n u0,.n s0,.n v0,.i f0,.i e0]).t (buildS q0x0 [.n l0,.f h0,.n u0,.n s0,.n v0,.i f0,.i e0]).h K=q0fz none N l0 h0 u0 s0 v0 f0 e0 (fun N1 C0 B1 R0 N0=>retK (buildS q0x1 [.i N1,.f C0,.f B1,.n l0,.f h0,.n u0,.n s0,.n v0,.i R0,.i N0]) K):=by kernel_rfl
def q0x3 (α:Type)(N:Nat):Env α:=(q0wy α N).addFun 192 false 1 q0x0 (fun l K=>match l with
  | [.n l0,.f h0,.n u0,.n s0,.n v0,.i f0,.i e0]=>q0fz none N l0 h0 u0 s0 v0 f0 e0 (fun N1 C0 B1 R0 N0=>retK (buildS q0x1 [.i N1,.f C0,.f B1,.n l0,.f h0,.n u0,.n s0,.n v0,.i R0,.i N0]) K)
  | _=>none)
theorem q0x4 {α:Type}(N:Nat):EnvOk Try.prog (q0x3 α N):=(q0wz N).addFun q0td q0te (d:=1) fun l K r h=>by
 split at h
 ·exact (q0x2 N _ _ _ _ _ _ _ K).trans h
 ·cases h
def q0x5 (α:Type)(N:Nat):Env α:=(q0x3 α N).addAnn 214 3 { head:=[0,2,3,4],grow:=[],out:=[2,3],ret:=[2] }
theorem q0x6 {α:Type}(N:Nat):EnvOk Try.prog (q0x5 α N):=(q0x4 N).addAnn
def q0x7 (α:Type)(N:Nat):Env α:=(q0x5 α N).addAnn 211 8 { head:=[1,2,3,4,5,10,11,12,13,14,15,16],grow:=[],out:=[1,2,3,4,5,10,12,13,14,15],ret:=[10] }
theorem q0x8 {α:Type}(N:Nat):EnvOk Try.prog (q0x7 α N):=(q0x6 N).addAnn
def q0x9:SPat:=⟨[.int .u8,.int .i64,.int .i64],[]⟩
def q0xa:SPat:=⟨[.int .u8],[]⟩
theorem q0xb {α:Type}(N:Nat)(row r_ upper:Int)(K:AV->Heap->Option α):
  callK Try.prog (q0x7 α N) 1 221 0 (buildS q0x9 [.i row,.i r_,.i upper]).t (buildS q0x9 [.i row,.i r_,.i upper]).h K=q0ej none N row r_ upper (fun r__=>retK (buildS q0xa [.i r__]) K):=by kernel_rfl
def q0xc (α:Type)(N:Nat):Env α:=(q0x7 α N).addFun 221 true 0 q0x9 (fun l K=>match l with
  | [.i row,.i r_,.i upper]=>q0ej none N row r_ upper (fun r__=>retK (buildS q0xa [.i r__]) K)
  | _=>none)
theorem q0xd {α:Type}(N:Nat):EnvOk Try.prog (q0xc α N):=(q0x8 N).addFun q0td q0te (d:=1) fun l K r h=>by
 split at h
 ·exact (q0xb N _ _ _ K).trans h
 ·cases h
def q0xe:SPat:=⟨[.undef,.int .i64,.int .i64,.int .i64,.int .i64,.ptr ⟨⟨0,0⟩,0,0,1⟩,.undef,.undef,.undef,.undef,.ptr ⟨⟨1,0⟩,0,0,1⟩,.ptr ⟨⟨2,0⟩,0,0,8⟩,.ptr ⟨⟨3,0⟩,0,0,8⟩,.int .i64,.ptr ⟨⟨4,0⟩,0,0,8⟩,.ptr ⟨⟨5,0⟩,0,0,8⟩,.int .i64]++List.replicate 100 .undef,[[.vals [.int .i64],.ints .u8 8,.ints .u8 8],[.vals [.int .i64],.ints .u8 8,.ints .u8 8],[.ints .u8 8],[.ints .u8 8],[.ints .u8 8],[.ints .u8 8]]⟩
def q0xf:SPat:=⟨[.undef,.int .i64,.int .i64,.int .i64,.int .i64,.ptr ⟨⟨0,0⟩,0,0,1⟩,.undef,.undef,.undef,.undef,.ptr ⟨⟨1,0⟩,0,0,1⟩,.undef,.ptr ⟨⟨3,0⟩,0,0,8⟩,.int .i64,.ptr ⟨⟨4,0⟩,0,0,8⟩,.ptr ⟨⟨5,0⟩,0,0,8⟩]++List.replicate 101 .undef,[[.vals [.int .i64],.ints .u8 8,.ints .u8 8],[.vals [.int .i64],.ints .u8 8,.ints .u8 8],[.ints .u8 8],[.ints .u8 8],[.ints .u8 8],[.ints .u8 8]]⟩
theorem q0xg {α:Type}(N:Nat)(t1 t2 t3 t4 z2 X0 d0:Int)(c0 b0:NI)(m0:Int)(f0 e0 h2 h3 h4 h5:NI)(kn:St->Option α)(K:AExit->St->Option α):
  roundK Try.prog (q0xc α N) 1 0 211 Try.f211 8 6 (buildS q0xe [.i t1,.i t2,.i t3,.i t4,.i z2,.i X0,.i d0,.f c0,.f b0,.i m0,.f f0,.f e0,.f h2,.f h3,.f h4,.f h5]) kn K=q0ek none N t1 t2 t3 t4 z2 d0 c0 b0 m0 f0 e0 h2 h3 X0 h4 h5 (fun X0 h4 h5=>kn (buildS q0xe [.i t1,.i t2,.i t3,.i t4,.i z2,.i X0,.i d0,.f c0,.f b0,.i m0,.f f0,.f e0,.f h2,.f h3,.f h4,.f h5])) (fun h4_ h5_=>K (.exit 0) (buildS q0xf [.i t1,.i t2,.i t3,.i t4,.i z2,.i d0,.f c0,.f b0,.i m0,.f f0,.f e0,.f h2,.f h3,.f h4_,.f h5_])):=by kernel_rfl
theorem q0xh {α:Type}(N:Nat)(t1 t2 t3 t4 z2 d0:Int)(c0 b0:NI)(m0:Int)(f0 e0 h2 h3:NI)(K:AExit->St->Option α):∀ (m:Nat) (X0:Int) (h4 h5:NI),
  loopN (trimSt ((q0xc α N).ann 211 8).head ((q0xc α N).ann 211 8).grow 6) (bodyK Try.prog (q0xc α N) 1 0 211 Try.f211 8) m (buildS q0xe [.i t1,.i t2,.i t3,.i t4,.i z2,.i X0,.i d0,.f c0,.f b0,.i m0,.f f0,.f e0,.f h2,.f h3,.f h4,.f h5]) (leaveLoop ((q0xc α N).ann 211 8) 6 K)=q0el none N t1 t2 t3 t4 z2 d0 c0 b0 m0 f0 e0 h2 h3 m X0 h4 h5 (fun h4_ h5_=>K (.exit 0) (buildS q0xf [.i t1,.i t2,.i t3,.i t4,.i z2,.i d0,.f c0,.f b0,.i m0,.f f0,.f e0,.f h2,.f h3,.f h4_,.f h5_])):=by
 intro m
 induction m with
 | zero=>intros;rfl
 | succ m ih=>
  intro X0 h4 h5
  rw [q0bc]
  refine (q0xg N t1 t2 t3 t4 z2 X0 d0 c0 b0 m0 f0 e0 h2 h3 h4 h5 _ K).trans ?_
  exact congrArg (fun kn=>q0ek none N t1 t2 t3 t4 z2 d0 c0 b0 m0 f0 e0 h2 h3 X0 h4 h5 kn (fun h4_ h5_=>K (.exit 0) (buildS q0xf [.i t1,.i t2,.i t3,.i t4,.i z2,.i d0,.f c0,.f b0,.i m0,.f f0,.f e0,.f h2,.f h3,.f h4_,.f h5_]))) (funext fun X0=>funext fun h4=>funext fun h5=>ih X0 h4 h5)
def q0xi (α:Type)(N:Nat):Env α:=(q0xc α N).addLoop2 211 8 (loopSum2 ((q0xc α N).ann 211 8) 0 q0xe (fun l K=>match l with
  | [.i t1,.i t2,.i t3,.i t4,.i z2,.i X0,.i d0,.f c0,.f b0,.i m0,.f f0,.f e0,.f h2,.f h3,.f h4,.f h5]=>q0el none N t1 t2 t3 t4 z2 d0 c0 b0 m0 f0 e0 h2 h3 N X0 h4 h5 (fun h4_ h5_=>K (.exit 0) (buildS q0xf [.i t1,.i t2,.i t3,.i t4,.i z2,.i d0,.f c0,.f b0,.i m0,.f f0,.f e0,.f h2,.f h3,.f h4_,.f h5_]))
  | _=>none) ((q0xc α N).ls 211 8))
theorem q0xj {α:Type}(N:Nat):EnvOk Try.prog (q0xi α N):=(q0xd N).addLoop2 Try.func211 (by kernel_rfl) (q0ba q0td q0te (q0xd N) Try.func211 (by kernel_rfl) (d:=1) (ro:=0) fun l K r h=>by
 split at h
 ·exact (q0xh N _ _ _ _ _ _ _ _ _ _ _ _ _ K N _ _ _).trans h
 ·cases h)
def q0xk:SPat:=⟨[.agg [.vals [.int .i64],.ints .u8 8,.ints .u8 8],.int .i64,.int .i64,.int .i64,.int .i64],[]⟩
def q0xl:SPat:=⟨[.agg [.vals [.int .i64],.ints .u8 8,.ints .u8 8]],[]⟩
theorem q0xm {α:Type}(N:Nat)(g0:Int)(i0 j0:NI)(a1 a2 a3 a4:Int)(K:AV->Heap->Option α):
  callK Try.prog (q0xi α N) 1 211 0 (buildS q0xk [.i g0,.f i0,.f j0,.i a1,.i a2,.i a3,.i a4]).t (buildS q0xk [.i g0,.f i0,.f j0,.i a1,.i a2,.i a3,.i a4]).h K=q0em none N g0 i0 j0 a1 a2 a3 a4 (fun N1 C0 B1=>retK (buildS q0xl [.i N1,.f C0,.f B1]) K):=by kernel_rfl
def q0xn (α:Type)(N:Nat):Env α:=(q0xi α N).addFun 211 true 0 q0xk (fun l K=>match l with
  | [.i g0,.f i0,.f j0,.i a1,.i a2,.i a3,.i a4]=>q0em none N g0 i0 j0 a1 a2 a3 a4 (fun N1 C0 B1=>retK (buildS q0xl [.i N1,.f C0,.f B1]) K)
  | _=>none)
theorem q0xo {α:Type}(N:Nat):EnvOk Try.prog (q0xn α N):=(q0xj N).addFun q0td q0te (d:=1) fun l K r h=>by
 split at h
 ·exact (q0xm N _ _ _ _ _ _ _ K).trans h
 ·cases h
def q0xp:SPat:=⟨[.ptr ⟨⟨1,0⟩,0,0,3⟩,.undef,.ptr ⟨⟨2,0⟩,0,0,1⟩,.ptr ⟨⟨3,0⟩,0,0,1⟩,.int .i64]++List.replicate 26 .undef,[[.intsV .u8],[.vals [.sliceV 0 0 0 1 false,.int .i64,.int .u64]],[.vals [.int .i64],.ints .u8 8,.ints .u8 8],[.vals [.int .i64],.ints .u8 8,.ints .u8 8]]⟩
def q0xq:SPat:=⟨[.undef,.undef,.ptr ⟨⟨2,0⟩,0,0,1⟩,.ptr ⟨⟨3,0⟩,0,0,1⟩]++List.replicate 27 .undef,[[.intsV .u8],[.vals [.sliceV 0 0 0 1 false,.int .i64,.int .u64]],[.vals [.int .i64],.ints .u8 8,.ints .u8 8],[.vals [.int .i64],.ints .u8 8,.ints .u8 8]]⟩
theorem q0xr {α:Type}(N:Nat)(k:Int)(l0:Nat)(h0:NI)(u0 s0 v0:Nat)(f0 e0 t0:Int)(q0 r0:NI)(z0:Int)(x0 y0:NI)(kn:St->Option α)(K:AExit->St->Option α):
  roundK Try.prog (q0xn α N) 1 1 214 Try.f214 3 4 (buildS q0xp [.i k,.n l0,.f h0,.n u0,.n s0,.n v0,.i f0,.i e0,.i t0,.f q0,.f r0,.i z0,.f x0,.f y0]) kn K=q0g0 none N l0 h0 u0 s0 v0 t0 q0 r0 k f0 e0 z0 x0 y0 (fun k f0 e0 z0 x0 y0=>kn (buildS q0xp [.i k,.n l0,.f h0,.n u0,.n s0,.n v0,.i f0,.i e0,.i t0,.f q0,.f r0,.i z0,.f x0,.f y0])) (fun R0 N0 g4 J2 K2=>K (.exit 0) (buildS q0xq [.n l0,.f h0,.n u0,.n s0,.n v0,.i R0,.i N0,.i t0,.f q0,.f r0,.i g4,.f J2,.f K2])):=by kernel_rfl
theorem q0xs {α:Type}(N l0:Nat)(h0:NI)(u0 s0 v0:Nat)(t0:Int)(q0 r0:NI)(K:AExit->St->Option α):∀ (m:Nat) (k f0 e0 z0:Int) (x0 y0:NI),
  loopN (trimSt ((q0xn α N).ann 214 3).head ((q0xn α N).ann 214 3).grow 4) (bodyK Try.prog (q0xn α N) 1 1 214 Try.f214 3) m (buildS q0xp [.i k,.n l0,.f h0,.n u0,.n s0,.n v0,.i f0,.i e0,.i t0,.f q0,.f r0,.i z0,.f x0,.f y0]) (leaveLoop ((q0xn α N).ann 214 3) 4 K)=q0g1 none N l0 h0 u0 s0 v0 t0 q0 r0 m k f0 e0 z0 x0 y0 (fun R0 N0 g4 J2 K2=>K (.exit 0) (buildS q0xq [.n l0,.f h0,.n u0,.n s0,.n v0,.i R0,.i N0,.i t0,.f q0,.f r0,.i g4,.f J2,.f K2])):=by
 intro m
 induction m with
 | zero=>intros;rfl
 | succ m ih=>
  intro k f0 e0 z0 x0 y0
  rw [q0bc]
  refine (q0xr N k l0 h0 u0 s0 v0 f0 e0 t0 q0 r0 z0 x0 y0 _ K).trans ?_
  exact congrArg (fun kn=>q0g0 none N l0 h0 u0 s0 v0 t0 q0 r0 k f0 e0 z0 x0 y0 kn (fun R0 N0 g4 J2 K2=>K (.exit 0) (buildS q0xq [.n l0,.f h0,.n u0,.n s0,.n v0,.i R0,.i N0,.i t0,.f q0,.f r0,.i g4,.f J2,.f K2]))) (funext fun k=>funext fun f0=>funext fun e0=>funext fun z0=>funext fun x0=>funext fun y0=>ih k f0 e0 z0 x0 y0)
def q0xt (α:Type)(N:Nat):Env α:=(q0xn α N).addLoop2 214 3 (loopSum2 ((q0xn α N).ann 214 3) 1 q0xp (fun l K=>match l with
  | [.i k,.n l0,.f h0,.n u0,.n s0,.n v0,.i f0,.i e0,.i t0,.f q0,.f r0,.i z0,.f x0,.f y0]=>q0g1 none N l0 h0 u0 s0 v0 t0 q0 r0 N k f0 e0 z0 x0 y0 (fun R0 N0 g4 J2 K2=>K (.exit 0) (buildS q0xq [.n l0,.f h0,.n u0,.n s0,.n v0,.i R0,.i N0,.i t0,.f q0,.f r0,.i g4,.f J2,.f K2]))
  | _=>none) ((q0xn α N).ls 214 3))
theorem q0xu {α:Type}(N:Nat):EnvOk Try.prog (q0xt α N):=(q0xo N).addLoop2 Try.func214 (by kernel_rfl) (q0ba q0td q0te (q0xo N) Try.func214 (by kernel_rfl) (d:=1) (ro:=1) fun l K r h=>by
 split at h
 ·exact (q0xs N _ _ _ _ _ _ _ _ K N _ _ _ _ _ _).trans h
 ·cases h)
def q0xv:SPat:=⟨[.ptr ⟨⟨1,0⟩,0,0,3⟩],[[.intsV .u8],[.vals [.sliceV 0 0 0 1 false,.int .i64,.int .u64]]]⟩
def q0xw:SPat:=⟨[.agg [.vals [.int .i64],.ints .u8 8,.ints .u8 8]],[[.intsV .u8],[.vals [.sliceV 0 0 0 1 false,.int .i64,.int .u64]]]⟩
theorem q0xx {α:Type}(N l0:Nat)(h0:NI)(u0 s0 v0:Nat)(f0 e0:Int)(K:AV->Heap->Option α):
  callK Try.prog (q0xt α N) 1 214 1 (buildS q0xv [.n l0,.f h0,.n u0,.n s0,.n v0,.i f0,.i e0]).t (buildS q0xv [.n l0,.f h0,.n u0,.n s0,.n v0,.i f0,.i e0]).h K=q0g2 none N l0 h0 u0 s0 v0 f0 e0 (fun N1 C0 B1 R0 N0=>retK (buildS q0xw [.i N1,.f C0,.f B1,.n l0,.f h0,.n u0,.n s0,.n v0,.i R0,.i N0]) K):=by kernel_rfl
def q0xy (α:Type)(N:Nat):Env α:=(q0xt α N).addFun 214 false 1 q0xv (fun l K=>match l with
  | [.n l0,.f h0,.n u0,.n s0,.n v0,.i f0,.i e0]=>q0g2 none N l0 h0 u0 s0 v0 f0 e0 (fun N1 C0 B1 R0 N0=>retK (buildS q0xw [.i N1,.f C0,.f B1,.n l0,.f h0,.n u0,.n s0,.n v0,.i R0,.i N0]) K)
  | _=>none)
theorem q0xz {α:Type}(N:Nat):EnvOk Try.prog (q0xy α N):=(q0xu N).addFun q0td q0te (d:=1) fun l K r h=>by
 split at h
 ·exact (q0xx N _ _ _ _ _ _ _ K).trans h
 ·cases h
def q0y0:SPat:=⟨[.ptr ⟨⟨1,0⟩,0,0,3⟩,.agg [.vals [.int .i64],.ints .u8 8,.ints .u8 8]],[[.intsV .u8],[.vals [.sliceV 0 0 0 1 false,.int .i64,.int .u64]]]⟩
def q0y1:SPat:=⟨[.agg [.vals [.int .i64],.ints .u8 8,.ints .u8 8]],[[.intsV .u8],[.vals [.sliceV 0 0 0 1 false,.int .i64,.int .u64]]]⟩
theorem q0y2 {α:Type}(N:Nat)(g0:Int)(i0 j0:NI)(l0:Nat)(h0:NI)(u0 s0 v0:Nat)(f0 e0:Int)(K:AV->Heap->Option α):
  callK Try.prog (q0xy α N) 1 121 1 (buildS q0y0 [.i g0,.f i0,.f j0,.n l0,.f h0,.n u0,.n s0,.n v0,.i f0,.i e0]).t (buildS q0y0 [.i g0,.f i0,.f j0,.n l0,.f h0,.n u0,.n s0,.n v0,.i f0,.i e0]).h K=q0g3 none N g0 i0 j0 l0 h0 u0 s0 v0 f0 e0 (fun N1 C0 B1 R0 N0=>retK (buildS q0y1 [.i N1,.f C0,.f B1,.n l0,.f h0,.n u0,.n s0,.n v0,.i R0,.i N0]) K):=by kernel_rfl
def q0y3 (α:Type)(N:Nat):Env α:=(q0xy α N).addFun 121 false 1 q0y0 (fun l K=>match l with
  | [.i g0,.f i0,.f j0,.n l0,.f h0,.n u0,.n s0,.n v0,.i f0,.i e0]=>q0g3 none N g0 i0 j0 l0 h0 u0 s0 v0 f0 e0 (fun N1 C0 B1 R0 N0=>retK (buildS q0y1 [.i N1,.f C0,.f B1,.n l0,.f h0,.n u0,.n s0,.n v0,.i R0,.i N0]) K)
  | _=>none)
theorem q0y4 {α:Type}(N:Nat):EnvOk Try.prog (q0y3 α N):=(q0xz N).addFun q0td q0te (d:=1) fun l K r h=>by
 split at h
 ·exact (q0y2 N _ _ _ _ _ _ _ _ _ _ K).trans h
 ·cases h
def q0y5:SPat:=⟨[.ptr ⟨⟨1,0⟩,0,0,3⟩],[[.intsV .u8],[.vals [.sliceV 0 0 0 1 false,.int .i64,.int .u64]]]⟩
def q0y6:SPat:=⟨[.agg [.vals [.int .i64],.ints .u8 8,.ints .u8 8]],[[.intsV .u8],[.vals [.sliceV 0 0 0 1 false,.int .i64,.int .u64]]]⟩
theorem q0y7 {α:Type}(N l0:Nat)(h0:NI)(u0 s0 v0:Nat)(f0 e0:Int)(K:AV->Heap->Option α):
  callK Try.prog (q0y3 α N) 1 182 1 (buildS q0y5 [.n l0,.f h0,.n u0,.n s0,.n v0,.i f0,.i e0]).t (buildS q0y5 [.n l0,.f h0,.n u0,.n s0,.n v0,.i f0,.i e0]).h K=q0g4 none N l0 h0 u0 s0 v0 f0 e0 (fun N1 C0 B1 R0 N0=>retK (buildS q0y6 [.i N1,.f C0,.f B1,.n l0,.f h0,.n u0,.n s0,.n v0,.i R0,.i N0]) K):=by kernel_rfl
def q0y8 (α:Type)(N:Nat):Env α:=(q0y3 α N).addFun 182 false 1 q0y5 (fun l K=>match l with
  | [.n l0,.f h0,.n u0,.n s0,.n v0,.i f0,.i e0]=>q0g4 none N l0 h0 u0 s0 v0 f0 e0 (fun N1 C0 B1 R0 N0=>retK (buildS q0y6 [.i N1,.f C0,.f B1,.n l0,.f h0,.n u0,.n s0,.n v0,.i R0,.i N0]) K)
  | _=>none)
theorem q0y9 {α:Type}(N:Nat):EnvOk Try.prog (q0y8 α N):=(q0y4 N).addFun q0td q0te (d:=1) fun l K r h=>by
 split at h
 ·exact (q0y7 N _ _ _ _ _ _ _ K).trans h
 ·cases h
def q0ya (α:Type)(N:Nat):Env α:=(q0y8 α N).addAnn 186 3 { head:=[1,3,4,5],grow:=[3],out:=[1,3,4],ret:=[2] }
theorem q0yb {α:Type}(N:Nat):EnvOk Try.prog (q0ya α N):=(q0y9 N).addAnn
def q0yc:SPat:=⟨[.int .i64,.int .i64,.int .i64,.int .i64],[]⟩
def q0yd:SPat:=⟨[.bool],[]⟩
theorem q0ye {α:Type}(N:Nat)(a a1 a2 a3:Int)(K:AV->Heap->Option α):
  callK Try.prog (q0ya α N) 1 198 0 (buildS q0yc [.i a,.i a1,.i a2,.i a3]).t (buildS q0yc [.i a,.i a1,.i a2,.i a3]).h K=q0cr none N a a1 a2 a3 (fun r__=>retK (buildS q0yd [.b r__]) K):=by kernel_rfl
def q0yf (α:Type)(N:Nat):Env α:=(q0ya α N).addFun 198 true 0 q0yc (fun l K=>match l with
  | [.i a,.i a1,.i a2,.i a3]=>q0cr none N a a1 a2 a3 (fun r__=>retK (buildS q0yd [.b r__]) K)
  | _=>none)
theorem q0yg {α:Type}(N:Nat):EnvOk Try.prog (q0yf α N):=(q0yb N).addFun q0td q0te (d:=1) fun l K r h=>by
 split at h
 ·exact (q0ye N _ _ _ _ K).trans h
 ·cases h
def q0yh:SPat:=⟨[.agg [.vals [.int .i64],.ints .u8 8,.ints .u8 8],.int .i64],[]⟩
def q0yi:SPat:=⟨[.bool],[]⟩
theorem q0yj {α:Type}(N:Nat)(g0:Int)(i0 j0:NI)(i:Int)(K:AV->Heap->Option α):
  callK Try.prog (q0yf α N) 1 127 0 (buildS q0yh [.i g0,.f i0,.f j0,.i i]).t (buildS q0yh [.i g0,.f i0,.f j0,.i i]).h K=q0e4 none N g0 i0 j0 i (fun r__=>retK (buildS q0yi [.b r__]) K):=by kernel_rfl
def q0yk (α:Type)(N:Nat):Env α:=(q0yf α N).addFun 127 true 0 q0yh (fun l K=>match l with
  | [.i g0,.f i0,.f j0,.i i]=>q0e4 none N g0 i0 j0 i (fun r__=>retK (buildS q0yi [.b r__]) K)
  | _=>none)
theorem q0yl {α:Type}(N:Nat):EnvOk Try.prog (q0yk α N):=(q0yg N).addFun q0td q0te (d:=1) fun l K r h=>by
 split at h
 ·exact (q0yj N _ _ _ _ K).trans h
 ·cases h
def q0ym:SPat:=⟨[.undef,.ptr ⟨⟨0,0⟩,0,0,1⟩,.undef,.sliceV 1 0 0 6 false,.int .i64,.int .i64]++List.replicate 86 .undef,[[.vals [.int .i64],.ints .u8 8,.ints .u8 8],[.vec .i64]]⟩
def q0yn:SPat:=⟨[.undef,.ptr ⟨⟨0,0⟩,0,0,1⟩,.undef,.sliceV 1 0 0 6 false,.int .i64]++List.replicate 87 .undef,[[.vals [.int .i64],.ints .u8 8,.ints .u8 8],[.vec .i64]]⟩
theorem q0yo {α:Type}(N W0 M0 Y0:Nat)(t4 t5 d0:Int)(c0 b0:NI)(h1:List Int)(kn:St->Option α)(K:AExit->St->Option α):
  roundK Try.prog (q0yk α N) 1 0 186 Try.f186 3 2 (buildS q0ym [.n W0,.n M0,.n Y0,.i t4,.i t5,.i d0,.f c0,.f b0,.l h1]) kn K=q0g7 none N t4 d0 c0 b0 W0 M0 Y0 t5 h1 (fun W0 M0 Y0 t5 h1=>kn (buildS q0ym [.n W0,.n M0,.n Y0,.i t4,.i t5,.i d0,.f c0,.f b0,.l h1])) (fun s2 u2 v2 h1_=>K (.exit 0) (buildS q0yn [.n s2,.n u2,.n v2,.i t4,.i d0,.f c0,.f b0,.l h1_])):=by kernel_rfl
theorem q0yp {α:Type}(N:Nat)(t4 d0:Int)(c0 b0:NI)(K:AExit->St->Option α):∀ (m W0 M0 Y0:Nat) (t5:Int) (h1:List Int),
  loopN (trimSt ((q0yk α N).ann 186 3).head ((q0yk α N).ann 186 3).grow 2) (bodyK Try.prog (q0yk α N) 1 0 186 Try.f186 3) m (buildS q0ym [.n W0,.n M0,.n Y0,.i t4,.i t5,.i d0,.f c0,.f b0,.l h1]) (leaveLoop ((q0yk α N).ann 186 3) 2 K)=q0g8 none N t4 d0 c0 b0 m W0 M0 Y0 t5 h1 (fun s2 u2 v2 h1_=>K (.exit 0) (buildS q0yn [.n s2,.n u2,.n v2,.i t4,.i d0,.f c0,.f b0,.l h1_])):=by
 intro m
 induction m with
 | zero=>intros;rfl
 | succ m ih=>
  intro W0 M0 Y0 t5 h1
  rw [q0bc]
  refine (q0yo N W0 M0 Y0 t4 t5 d0 c0 b0 h1 _ K).trans ?_
  exact congrArg (fun kn=>q0g7 none N t4 d0 c0 b0 W0 M0 Y0 t5 h1 kn (fun s2 u2 v2 h1_=>K (.exit 0) (buildS q0yn [.n s2,.n u2,.n v2,.i t4,.i d0,.f c0,.f b0,.l h1_]))) (funext fun W0=>funext fun M0=>funext fun Y0=>funext fun t5=>funext fun h1=>ih W0 M0 Y0 t5 h1)
def q0yq (α:Type)(N:Nat):Env α:=(q0yk α N).addLoop2 186 3 (loopSum2 ((q0yk α N).ann 186 3) 0 q0ym (fun l K=>match l with
  | [.n W0,.n M0,.n Y0,.i t4,.i t5,.i d0,.f c0,.f b0,.l h1]=>q0g8 none N t4 d0 c0 b0 N W0 M0 Y0 t5 h1 (fun s2 u2 v2 h1_=>K (.exit 0) (buildS q0yn [.n s2,.n u2,.n v2,.i t4,.i d0,.f c0,.f b0,.l h1_]))
  | _=>none) ((q0yk α N).ls 186 3))
theorem q0yr {α:Type}(N:Nat):EnvOk Try.prog (q0yq α N):=(q0yl N).addLoop2 Try.func186 (by kernel_rfl) (q0ba q0td q0te (q0yl N) Try.func186 (by kernel_rfl) (d:=1) (ro:=0) fun l K r h=>by
 split at h
 ·exact (q0yp N _ _ _ _ K N _ _ _ _ _).trans h
 ·cases h)
def q0ys (α:Type)(N:Nat):Env α:=(q0yq α N).addAnn 186 8 { head:=[1,3,4,6],grow:=[3],out:=[1,3,4],ret:=[2] }
theorem q0yt {α:Type}(N:Nat):EnvOk Try.prog (q0ys α N):=(q0yr N).addAnn
def q0yu (α:Type)(N:Nat):Env α:=(q0ys α N).addAnn 157 2 { head:=[1,2,3,7],grow:=[],out:=[],ret:=[6] }
theorem q0yv {α:Type}(N:Nat):EnvOk Try.prog (q0yu α N):=(q0yt N).addAnn
def q0yw:SPat:=⟨[.undef,.int .i64,.int .i64,.ptr ⟨⟨0,0⟩,0,0,8⟩,.undef,.undef,.undef,.int .i64]++List.replicate 12 .undef,[[.ints .u8 8]]⟩
def q0yx:SPat:=⟨[.undef,.undef,.undef,.undef,.undef,.undef,.int .i64]++List.replicate 13 .undef,[[.ints .u8 8]]⟩
def q0yy:SPat:=⟨[]++List.replicate 20 .undef,[[.ints .u8 8]]⟩
theorem q0yz {α:Type}(N:Nat)(n r_ i:Int)(h0:NI)(kn:St->Option α)(K:AExit->St->Option α):
  roundK Try.prog (q0yu α N) 1 0 157 Try.f157 2 1 (buildS q0yw [.i n,.i r_,.i i,.f h0]) kn K=q0co none n r_ h0 i (fun i=>kn (buildS q0yw [.i n,.i r_,.i i,.f h0])) (fun t6_=>K .ret (buildS q0yx [.i t6_,.f h0])) (K (.exit 0) (buildS q0yy [.f h0])):=by kernel_rfl
theorem q0z0 {α:Type}(N:Nat)(n r_:Int)(h0:NI)(K:AExit->St->Option α):∀ (m:Nat) (i:Int),
  loopN (trimSt ((q0yu α N).ann 157 2).head ((q0yu α N).ann 157 2).grow 1) (bodyK Try.prog (q0yu α N) 1 0 157 Try.f157 2) m (buildS q0yw [.i n,.i r_,.i i,.f h0]) (leaveLoop ((q0yu α N).ann 157 2) 1 K)=q0cp none n r_ h0 m i (fun t6_=>K .ret (buildS q0yx [.i t6_,.f h0])) (K (.exit 0) (buildS q0yy [.f h0])):=by
 intro m
 induction m with
 | zero=>intros;rfl
 | succ m ih=>
  intro i
  rw [q0bc]
  refine (q0yz N n r_ i h0 _ K).trans ?_
  exact congrArg (fun kn=>q0co none n r_ h0 i kn (fun t6_=>K .ret (buildS q0yx [.i t6_,.f h0])) (K (.exit 0) (buildS q0yy [.f h0]))) (funext fun i=>ih i)
def q0z1 (α:Type)(N:Nat):Env α:=(q0yu α N).addLoop2 157 2 (loopSum2 ((q0yu α N).ann 157 2) 0 q0yw (fun l K=>match l with
  | [.i n,.i r_,.i i,.f h0]=>q0cp none n r_ h0 N i (fun t6_=>K .ret (buildS q0yx [.i t6_,.f h0])) (K (.exit 0) (buildS q0yy [.f h0]))
  | _=>none) ((q0yu α N).ls 157 2))
theorem q0z2 {α:Type}(N:Nat):EnvOk Try.prog (q0z1 α N):=(q0yv N).addLoop2 Try.func157 (by kernel_rfl) (q0ba q0td q0te (q0yv N) Try.func157 (by kernel_rfl) (d:=1) (ro:=0) fun l K r h=>by
 split at h
 ·exact (q0z0 N _ _ _ K N _).trans h
 ·cases h)
def q0z3:SPat:=⟨[.agg [.ints .u8 8],.int .i64,.int .i64],[]⟩
def q0z4:SPat:=⟨[.int .i64],[]⟩
theorem q0z5 {α:Type}(N:Nat)(list:NI)(n r_:Int)(K:AV->Heap->Option α):
  callK Try.prog (q0z1 α N) 1 157 0 (buildS q0z3 [.f list,.i n,.i r_]).t (buildS q0z3 [.f list,.i n,.i r_]).h K=q0cq none N list n r_ (fun r__=>retK (buildS q0z4 [.i r__]) K):=by kernel_rfl
def q0z6 (α:Type)(N:Nat):Env α:=(q0z1 α N).addFun 157 true 0 q0z3 (fun l K=>match l with
  | [.f list,.i n,.i r_]=>q0cq none N list n r_ (fun r__=>retK (buildS q0z4 [.i r__]) K)
  | _=>none)
theorem q0z7 {α:Type}(N:Nat):EnvOk Try.prog (q0z6 α N):=(q0z2 N).addFun q0td q0te (d:=1) fun l K r h=>by
 split at h
 ·exact (q0z5 N _ _ _ K).trans h
 ·cases h
def q0z8:SPat:=⟨[.agg [.vals [.int .i64],.ints .u8 8,.ints .u8 8],.int .i64],[]⟩
def q0z9:SPat:=⟨[.bool],[]⟩
theorem q0za {α:Type}(N:Nat)(g0:Int)(i0 j0:NI)(r_:Int)(K:AV->Heap->Option α):
  callK Try.prog (q0z6 α N) 1 132 0 (buildS q0z8 [.i g0,.f i0,.f j0,.i r_]).t (buildS q0z8 [.i g0,.f i0,.f j0,.i r_]).h K=q0cs none N g0 i0 j0 r_ (fun r__=>retK (buildS q0z9 [.b r__]) K):=by kernel_rfl
def q0zb (α:Type)(N:Nat):Env α:=(q0z6 α N).addFun 132 true 0 q0z8 (fun l K=>match l with
  | [.i g0,.f i0,.f j0,.i r_]=>q0cs none N g0 i0 j0 r_ (fun r__=>retK (buildS q0z9 [.b r__]) K)
  | _=>none)
theorem q0zc {α:Type}(N:Nat):EnvOk Try.prog (q0zb α N):=(q0z7 N).addFun q0td q0te (d:=1) fun l K r h=>by
 split at h
 ·exact (q0za N _ _ _ _ K).trans h
 ·cases h
def q0zd:SPat:=⟨[.undef,.ptr ⟨⟨0,0⟩,0,0,1⟩,.undef,.sliceV 1 0 0 6 false,.int .i64,.undef,.int .i64]++List.replicate 85 .undef,[[.vals [.int .i64],.ints .u8 8,.ints .u8 8],[.vec .i64]]⟩
def q0ze:SPat:=⟨[.undef,.ptr ⟨⟨0,0⟩,0,0,1⟩,.undef,.sliceV 1 0 0 6 false,.int .i64]++List.replicate 87 .undef,[[.vals [.int .i64],.ints .u8 8,.ints .u8 8],[.vec .i64]]⟩
theorem q0zf {α:Type}(N W0 M0 Y0:Nat)(t4 t6 d0:Int)(c0 b0:NI)(h1:List Int)(kn:St->Option α)(K:AExit->St->Option α):
  roundK Try.prog (q0zb α N) 1 0 186 Try.f186 8 2 (buildS q0zd [.n W0,.n M0,.n Y0,.i t4,.i t6,.i d0,.f c0,.f b0,.l h1]) kn K=q0g9 none N t4 d0 c0 b0 W0 M0 Y0 t6 h1 (fun W0 M0 Y0 t6 h1=>kn (buildS q0zd [.n W0,.n M0,.n Y0,.i t4,.i t6,.i d0,.f c0,.f b0,.l h1])) (fun s2 u2 v2 h1_=>K (.exit 2) (buildS q0ze [.n s2,.n u2,.n v2,.i t4,.i d0,.f c0,.f b0,.l h1_])):=by kernel_rfl
theorem q0zg {α:Type}(N:Nat)(t4 d0:Int)(c0 b0:NI)(K:AExit->St->Option α):∀ (m W0 M0 Y0:Nat) (t6:Int) (h1:List Int),
  loopN (trimSt ((q0zb α N).ann 186 8).head ((q0zb α N).ann 186 8).grow 2) (bodyK Try.prog (q0zb α N) 1 0 186 Try.f186 8) m (buildS q0zd [.n W0,.n M0,.n Y0,.i t4,.i t6,.i d0,.f c0,.f b0,.l h1]) (leaveLoop ((q0zb α N).ann 186 8) 2 K)=q0ga none N t4 d0 c0 b0 m W0 M0 Y0 t6 h1 (fun s2 u2 v2 h1_=>K (.exit 2) (buildS q0ze [.n s2,.n u2,.n v2,.i t4,.i d0,.f c0,.f b0,.l h1_])):=by
 intro m
 induction m with
 | zero=>intros;rfl
 | succ m ih=>
  intro W0 M0 Y0 t6 h1
  rw [q0bc]
  refine (q0zf N W0 M0 Y0 t4 t6 d0 c0 b0 h1 _ K).trans ?_
  exact congrArg (fun kn=>q0g9 none N t4 d0 c0 b0 W0 M0 Y0 t6 h1 kn (fun s2 u2 v2 h1_=>K (.exit 2) (buildS q0ze [.n s2,.n u2,.n v2,.i t4,.i d0,.f c0,.f b0,.l h1_]))) (funext fun W0=>funext fun M0=>funext fun Y0=>funext fun t6=>funext fun h1=>ih W0 M0 Y0 t6 h1)
def q0zh (α:Type)(N:Nat):Env α:=(q0zb α N).addLoop2 186 8 (loopSum2 ((q0zb α N).ann 186 8) 0 q0zd (fun l K=>match l with
  | [.n W0,.n M0,.n Y0,.i t4,.i t6,.i d0,.f c0,.f b0,.l h1]=>q0ga none N t4 d0 c0 b0 N W0 M0 Y0 t6 h1 (fun s2 u2 v2 h1_=>K (.exit 2) (buildS q0ze [.n s2,.n u2,.n v2,.i t4,.i d0,.f c0,.f b0,.l h1_]))
  | _=>none) ((q0zb α N).ls 186 8))
theorem q0zi {α:Type}(N:Nat):EnvOk Try.prog (q0zh α N):=(q0zc N).addLoop2 Try.func186 (by kernel_rfl) (q0ba q0td q0te (q0zc N) Try.func186 (by kernel_rfl) (d:=1) (ro:=0) fun l K r h=>by
 split at h
 ·exact (q0zg N _ _ _ _ K N _ _ _ _ _).trans h
 ·cases h)
def q0zj (α:Type)(N:Nat):Env α:=(q0zh α N).addAnn 186 13 { head:=[1,3,4,7],grow:=[3],out:=[1,3],ret:=[2] }
theorem q0zk {α:Type}(N:Nat):EnvOk Try.prog (q0zj α N):=(q0zi N).addAnn
def q0zl (α:Type)(N:Nat):Env α:=(q0zj α N).addAnn 186 16 { head:=[1,3,4,7,8],grow:=[3],out:=[1,3,4,7],ret:=[2] }
theorem q0zm {α:Type}(N:Nat):EnvOk Try.prog (q0zl α N):=(q0zk N).addAnn
def q0zn:SPat:=⟨[.undef,.ptr ⟨⟨0,0⟩,0,0,1⟩,.undef,.sliceV 1 0 0 6 false,.int .i64,.undef,.undef,.int .i64,.int .i64]++List.replicate 83 .undef,[[.vals [.int .i64],.ints .u8 8,.ints .u8 8],[.vec .i64]]⟩
def q0zo:SPat:=⟨[.undef,.ptr ⟨⟨0,0⟩,0,0,1⟩,.undef,.sliceV 1 0 0 6 false,.int .i64,.undef,.undef,.int .i64]++List.replicate 84 .undef,[[.vals [.int .i64],.ints .u8 8,.ints .u8 8],[.vec .i64]]⟩
theorem q0zp {α:Type}(N W0 M0 Y0:Nat)(t4 t7 t8 d0:Int)(c0 b0:NI)(h1:List Int)(kn:St->Option α)(K:AExit->St->Option α):
  roundK Try.prog (q0zl α N) 1 0 186 Try.f186 16 2 (buildS q0zn [.n W0,.n M0,.n Y0,.i t4,.i t7,.i t8,.i d0,.f c0,.f b0,.l h1]) kn K=q0gb none t4 t7 d0 c0 b0 W0 M0 Y0 t8 h1 (fun W0 M0 Y0 t8 h1=>kn (buildS q0zn [.n W0,.n M0,.n Y0,.i t4,.i t7,.i t8,.i d0,.f c0,.f b0,.l h1])) (fun s2 u2 v2 h1_=>K (.exit 6) (buildS q0zo [.n s2,.n u2,.n v2,.i t4,.i t7,.i d0,.f c0,.f b0,.l h1_])):=by kernel_rfl
theorem q0zq {α:Type}(N:Nat)(t4 t7 d0:Int)(c0 b0:NI)(K:AExit->St->Option α):∀ (m W0 M0 Y0:Nat) (t8:Int) (h1:List Int),
  loopN (trimSt ((q0zl α N).ann 186 16).head ((q0zl α N).ann 186 16).grow 2) (bodyK Try.prog (q0zl α N) 1 0 186 Try.f186 16) m (buildS q0zn [.n W0,.n M0,.n Y0,.i t4,.i t7,.i t8,.i d0,.f c0,.f b0,.l h1]) (leaveLoop ((q0zl α N).ann 186 16) 2 K)=q0gc none t4 t7 d0 c0 b0 m W0 M0 Y0 t8 h1 (fun s2 u2 v2 h1_=>K (.exit 6) (buildS q0zo [.n s2,.n u2,.n v2,.i t4,.i t7,.i d0,.f c0,.f b0,.l h1_])):=by
 intro m
 induction m with
 | zero=>intros;rfl
 | succ m ih=>
  intro W0 M0 Y0 t8 h1
  rw [q0bc]
  refine (q0zp N W0 M0 Y0 t4 t7 t8 d0 c0 b0 h1 _ K).trans ?_
  exact congrArg (fun kn=>q0gb none t4 t7 d0 c0 b0 W0 M0 Y0 t8 h1 kn (fun s2 u2 v2 h1_=>K (.exit 6) (buildS q0zo [.n s2,.n u2,.n v2,.i t4,.i t7,.i d0,.f c0,.f b0,.l h1_]))) (funext fun W0=>funext fun M0=>funext fun Y0=>funext fun t8=>funext fun h1=>ih W0 M0 Y0 t8 h1)
def q0zr (α:Type)(N:Nat):Env α:=(q0zl α N).addLoop2 186 16 (loopSum2 ((q0zl α N).ann 186 16) 0 q0zn (fun l K=>match l with
  | [.n W0,.n M0,.n Y0,.i t4,.i t7,.i t8,.i d0,.f c0,.f b0,.l h1]=>q0gc none t4 t7 d0 c0 b0 N W0 M0 Y0 t8 h1 (fun s2 u2 v2 h1_=>K (.exit 6) (buildS q0zo [.n s2,.n u2,.n v2,.i t4,.i t7,.i d0,.f c0,.f b0,.l h1_]))
  | _=>none) ((q0zl α N).ls 186 16))
theorem q0zs {α:Type}(N:Nat):EnvOk Try.prog (q0zr α N):=(q0zm N).addLoop2 Try.func186 (by kernel_rfl) (q0ba q0td q0te (q0zm N) Try.func186 (by kernel_rfl) (d:=1) (ro:=0) fun l K r h=>by
 split at h
 ·exact (q0zq N _ _ _ _ _ K N _ _ _ _ _).trans h
 ·cases h)
def q0zt:SPat:=⟨[.undef,.ptr ⟨⟨0,0⟩,0,0,1⟩,.undef,.sliceV 1 0 0 6 false,.int .i64,.undef,.undef,.int .i64]++List.replicate 84 .undef,[[.vals [.int .i64],.ints .u8 8,.ints .u8 8],[.vec .i64]]⟩
def q0zu:SPat:=⟨[.undef,.ptr ⟨⟨0,0⟩,0,0,1⟩,.undef,.sliceV 1 0 0 6 false]++List.replicate 88 .undef,[[.vals [.int .i64],.ints .u8 8,.ints .u8 8],[.vec .i64]]⟩
theorem q0zv {α:Type}(N W0 M0 Y0:Nat)(t4 t7 d0:Int)(c0 b0:NI)(h1:List Int)(kn:St->Option α)(K:AExit->St->Option α):
  roundK Try.prog (q0zr α N) 1 0 186 Try.f186 13 2 (buildS q0zt [.n W0,.n M0,.n Y0,.i t4,.i t7,.i d0,.f c0,.f b0,.l h1]) kn K=q0gd none N t4 d0 c0 b0 W0 M0 Y0 t7 h1 (fun W0 M0 Y0 t7 h1=>kn (buildS q0zt [.n W0,.n M0,.n Y0,.i t4,.i t7,.i d0,.f c0,.f b0,.l h1])) (fun s2 u2 v2 h1_=>K (.exit 4) (buildS q0zu [.n s2,.n u2,.n v2,.i d0,.f c0,.f b0,.l h1_])):=by kernel_rfl
theorem q0zw {α:Type}(N:Nat)(t4 d0:Int)(c0 b0:NI)(K:AExit->St->Option α):∀ (m W0 M0 Y0:Nat) (t7:Int) (h1:List Int),
  loopN (trimSt ((q0zr α N).ann 186 13).head ((q0zr α N).ann 186 13).grow 2) (bodyK Try.prog (q0zr α N) 1 0 186 Try.f186 13) m (buildS q0zt [.n W0,.n M0,.n Y0,.i t4,.i t7,.i d0,.f c0,.f b0,.l h1]) (leaveLoop ((q0zr α N).ann 186 13) 2 K)=q0ge none N t4 d0 c0 b0 m W0 M0 Y0 t7 h1 (fun s2 u2 v2 h1_=>K (.exit 4) (buildS q0zu [.n s2,.n u2,.n v2,.i d0,.f c0,.f b0,.l h1_])):=by
 intro m
 induction m with
 | zero=>intros;rfl
 | succ m ih=>
  intro W0 M0 Y0 t7 h1
  rw [q0bc]
  refine (q0zv N W0 M0 Y0 t4 t7 d0 c0 b0 h1 _ K).trans ?_
  exact congrArg (fun kn=>q0gd none N t4 d0 c0 b0 W0 M0 Y0 t7 h1 kn (fun s2 u2 v2 h1_=>K (.exit 4) (buildS q0zu [.n s2,.n u2,.n v2,.i d0,.f c0,.f b0,.l h1_]))) (funext fun W0=>funext fun M0=>funext fun Y0=>funext fun t7=>funext fun h1=>ih W0 M0 Y0 t7 h1)
def q0zx (α:Type)(N:Nat):Env α:=(q0zr α N).addLoop2 186 13 (loopSum2 ((q0zr α N).ann 186 13) 0 q0zt (fun l K=>match l with
  | [.n W0,.n M0,.n Y0,.i t4,.i t7,.i d0,.f c0,.f b0,.l h1]=>q0ge none N t4 d0 c0 b0 N W0 M0 Y0 t7 h1 (fun s2 u2 v2 h1_=>K (.exit 4) (buildS q0zu [.n s2,.n u2,.n v2,.i d0,.f c0,.f b0,.l h1_]))
  | _=>none) ((q0zr α N).ls 186 13))
theorem q0zy {α:Type}(N:Nat):EnvOk Try.prog (q0zx α N):=(q0zs N).addLoop2 Try.func186 (by kernel_rfl) (q0ba q0td q0te (q0zs N) Try.func186 (by kernel_rfl) (d:=1) (ro:=0) fun l K r h=>by
 split at h
 ·exact (q0zw N _ _ _ _ K N _ _ _ _ _).trans h
 ·cases h)
def q0zz (α:Type)(N:Nat):Env α:=(q0zx α N).addAnn 216 3 { head:=[1,3,4],grow:=[3],out:=[3],ret:=[2] }
theorem q100 {α:Type}(N:Nat):EnvOk Try.prog (q0zz α N):=(q0zy N).addAnn
def q101 (α:Type)(N:Nat):Env α:=(q0zz α N).addAnn 216 6 { head:=[1,3,4,5],grow:=[3],out:=[1,3,4],ret:=[2] }
theorem q102 {α:Type}(N:Nat):EnvOk Try.prog (q101 α N):=(q100 N).addAnn
def q103 (α:Type)(N:Nat):Env α:=(q101 α N).addAnn 181 4 { head:=[1,2,3,6,7,9],grow:=[],out:=[6,7],ret:=[6,7,8] }
theorem q104 {α:Type}(N:Nat):EnvOk Try.prog (q103 α N):=(q102 N).addAnn
def q105 (α:Type)(N:Nat):Env α:=(q103 α N).addAnn 181 7 { head:=[1,2,3,6,7,9,10],grow:=[],out:=[1,2,3,6,7,9],ret:=[6,7,8] }
theorem q106 {α:Type}(N:Nat):EnvOk Try.prog (q105 α N):=(q104 N).addAnn
def q107 (α:Type)(N:Nat):Env α:=(q105 α N).addAnn 181 10 { head:=[1,2,3,6,7,9,10,11],grow:=[],out:=[1,2,3,6,7,9,10],ret:=[6,7,8] }
theorem q108 {α:Type}(N:Nat):EnvOk Try.prog (q107 α N):=(q106 N).addAnn
def q109 (α:Type)(N:Nat):Env α:=(q107 α N).addAnn 213 3 { head:=[1,2,3,6,7,8],grow:=[],out:=[6,7],ret:=[6] }
theorem q10a {α:Type}(N:Nat):EnvOk Try.prog (q109 α N):=(q108 N).addAnn
def q10b:SPat:=⟨[.int .u8,.int .i64],[]⟩
def q10c:SPat:=⟨[.int .u8],[]⟩
theorem q10d {α:Type}(N:Nat)(row out:Int)(K:AV->Heap->Option α):
  callK Try.prog (q109 α N) 1 222 0 (buildS q10b [.i row,.i out]).t (buildS q10b [.i row,.i out]).h K=q0e5 none N row out (fun r__=>retK (buildS q10c [.i r__]) K):=by kernel_rfl
def q10e (α:Type)(N:Nat):Env α:=(q109 α N).addFun 222 true 0 q10b (fun l K=>match l with
  | [.i row,.i out]=>q0e5 none N row out (fun r__=>retK (buildS q10c [.i r__]) K)
  | _=>none)
theorem q10f {α:Type}(N:Nat):EnvOk Try.prog (q10e α N):=(q10a N).addFun q0td q0te (d:=1) fun l K r h=>by
 split at h
 ·exact (q10d N _ _ K).trans h
 ·cases h
def q10g:SPat:=⟨[.undef,.int .i64,.int .i64,.ptr ⟨⟨0,0⟩,0,0,1⟩,.undef,.undef,.ptr ⟨⟨1,0⟩,0,0,1⟩,.ptr ⟨⟨2,0⟩,0,0,1⟩,.int .i64]++List.replicate 39 .undef,[[.vals [.int .i64],.ints .u8 8,.ints .u8 8],[.vals [.int .i64],.ints .u8 8,.ints .u8 8],[.vals [.int .i64],.ints .u8 8,.ints .u8 8]]⟩
def q10h:SPat:=⟨[.undef,.undef,.undef,.undef,.undef,.undef,.ptr ⟨⟨1,0⟩,0,0,1⟩,.ptr ⟨⟨2,0⟩,0,0,1⟩]++List.replicate 40 .undef,[[.vals [.int .i64],.ints .u8 8,.ints .u8 8],[.vals [.int .i64],.ints .u8 8,.ints .u8 8],[.vals [.int .i64],.ints .u8 8,.ints .u8 8]]⟩
theorem q10i {α:Type}(N:Nat)(column row k d0:Int)(c0 b0:NI)(m0:Int)(f0 e0:NI)(t0:Int)(q0 r0:NI)(kn:St->Option α)(K:AExit->St->Option α):
  roundK Try.prog (q10e α N) 1 0 213 Try.f213 3 3 (buildS q10g [.i column,.i row,.i k,.i d0,.f c0,.f b0,.i m0,.f f0,.f e0,.i t0,.f q0,.f r0]) kn K=q0e6 none N column row d0 c0 b0 m0 f0 e0 t0 k q0 r0 (fun k q0 r0=>kn (buildS q10g [.i column,.i row,.i k,.i d0,.f c0,.f b0,.i m0,.f f0,.f e0,.i t0,.f q0,.f r0])) (fun i2 j2=>K (.exit 0) (buildS q10h [.i d0,.f c0,.f b0,.i m0,.f f0,.f e0,.i t0,.f i2,.f j2])):=by kernel_rfl
theorem q10j {α:Type}(N:Nat)(column row d0:Int)(c0 b0:NI)(m0:Int)(f0 e0:NI)(t0:Int)(K:AExit->St->Option α):∀ (m:Nat) (k:Int) (q0 r0:NI),
  loopN (trimSt ((q10e α N).ann 213 3).head ((q10e α N).ann 213 3).grow 3) (bodyK Try.prog (q10e α N) 1 0 213 Try.f213 3) m (buildS q10g [.i column,.i row,.i k,.i d0,.f c0,.f b0,.i m0,.f f0,.f e0,.i t0,.f q0,.f r0]) (leaveLoop ((q10e α N).ann 213 3) 3 K)=q0e7 none N column row d0 c0 b0 m0 f0 e0 t0 m k q0 r0 (fun i2 j2=>K (.exit 0) (buildS q10h [.i d0,.f c0,.f b0,.i m0,.f f0,.f e0,.i t0,.f i2,.f j2])):=by
 intro m
 induction m with
 | zero=>intros;rfl
 | succ m ih=>
  intro k q0 r0
  rw [q0bc]
  refine (q10i N column row k d0 c0 b0 m0 f0 e0 t0 q0 r0 _ K).trans ?_
  exact congrArg (fun kn=>q0e6 none N column row d0 c0 b0 m0 f0 e0 t0 k q0 r0 kn (fun i2 j2=>K (.exit 0) (buildS q10h [.i d0,.f c0,.f b0,.i m0,.f f0,.f e0,.i t0,.f i2,.f j2]))) (funext fun k=>funext fun q0=>funext fun r0=>ih k q0 r0)
def q10k (α:Type)(N:Nat):Env α:=(q10e α N).addLoop2 213 3 (loopSum2 ((q10e α N).ann 213 3) 0 q10g (fun l K=>match l with
  | [.i column,.i row,.i k,.i d0,.f c0,.f b0,.i m0,.f f0,.f e0,.i t0,.f q0,.f r0]=>q0e7 none N column row d0 c0 b0 m0 f0 e0 t0 N k q0 r0 (fun i2 j2=>K (.exit 0) (buildS q10h [.i d0,.f c0,.f b0,.i m0,.f f0,.f e0,.i t0,.f i2,.f j2]))
  | _=>none) ((q10e α N).ls 213 3))
theorem q10l {α:Type}(N:Nat):EnvOk Try.prog (q10k α N):=(q10f N).addLoop2 Try.func213 (by kernel_rfl) (q0ba q0td q0te (q10f N) Try.func213 (by kernel_rfl) (d:=1) (ro:=0) fun l K r h=>by
 split at h
 ·exact (q10j N _ _ _ _ _ _ _ _ _ K N _ _ _).trans h
 ·cases h)
def q10m:SPat:=⟨[.agg [.vals [.int .i64],.ints .u8 8,.ints .u8 8],.int .i64,.int .i64],[]⟩
def q10n:SPat:=⟨[.agg [.vals [.int .i64],.ints .u8 8,.ints .u8 8]],[]⟩
theorem q10o {α:Type}(N:Nat)(g0:Int)(i0 j0:NI)(column row:Int)(K:AV->Heap->Option α):
  callK Try.prog (q10k α N) 1 213 0 (buildS q10m [.i g0,.f i0,.f j0,.i column,.i row]).t (buildS q10m [.i g0,.f i0,.f j0,.i column,.i row]).h K=q0e8 none N g0 i0 j0 column row (fun N1 C0 B1=>retK (buildS q10n [.i N1,.f C0,.f B1]) K):=by kernel_rfl
def q10p (α:Type)(N:Nat):Env α:=(q10k α N).addFun 213 true 0 q10m (fun l K=>match l with
  | [.i g0,.f i0,.f j0,.i column,.i row]=>q0e8 none N g0 i0 j0 column row (fun N1 C0 B1=>retK (buildS q10n [.i N1,.f C0,.f B1]) K)
  | _=>none)
theorem q10q {α:Type}(N:Nat):EnvOk Try.prog (q10p α N):=(q10l N).addFun q0td q0te (d:=1) fun l K r h=>by
 split at h
 ·exact (q10o N _ _ _ _ _ K).trans h
 ·cases h
def q10r:SPat:=⟨[.undef,.int .i64,.int .i64,.ptr ⟨⟨0,0⟩,0,0,1⟩,.undef,.undef,.ptr ⟨⟨1,0⟩,0,0,1⟩,.ptr ⟨⟨2,0⟩,0,0,6⟩,.undef,.int .i64,.int .i64,.int .i64]++List.replicate 118 .undef,[[.vals [.int .i64],.ints .u8 8,.ints .u8 8],[.vals [.int .i64],.ints .u8 8,.ints .u8 8],[.ints .i64 6]]⟩
def q10s:SPat:=⟨[.undef,.undef,.undef,.undef,.undef,.undef,.ptr ⟨⟨1,0⟩,0,0,1⟩,.ptr ⟨⟨2,0⟩,0,0,6⟩,.boolC true]++List.replicate 121 .undef,[[.vals [.int .i64],.ints .u8 8,.ints .u8 8],[.vals [.int .i64],.ints .u8 8,.ints .u8 8],[.ints .i64 6]]⟩
def q10t:SPat:=⟨[.undef,.int .i64,.int .i64,.ptr ⟨⟨0,0⟩,0,0,1⟩,.undef,.undef,.ptr ⟨⟨1,0⟩,0,0,1⟩,.ptr ⟨⟨2,0⟩,0,0,6⟩,.undef,.int .i64,.int .i64]++List.replicate 119 .undef,[[.vals [.int .i64],.ints .u8 8,.ints .u8 8],[.vals [.int .i64],.ints .u8 8,.ints .u8 8],[.ints .i64 6]]⟩
theorem q10u {α:Type}(N:Nat)(t1 t2 t9 p0 V0 d0:Int)(c0 b0:NI)(m0:Int)(f0 e0 h2:NI)(kn:St->Option α)(K:AExit->St->Option α):
  roundK Try.prog (q10p α N) 1 0 181 Try.f181 10 3 (buildS q10r [.i t1,.i t2,.i t9,.i p0,.i V0,.i d0,.f c0,.f b0,.i m0,.f f0,.f e0,.f h2]) kn K=q0e9 none N t1 t2 t9 p0 d0 c0 b0 m0 f0 e0 h2 V0 (fun V0=>kn (buildS q10r [.i t1,.i t2,.i t9,.i p0,.i V0,.i d0,.f c0,.f b0,.i m0,.f f0,.f e0,.f h2])) (fun y1 R0 N0 h2_=>K .ret (buildS q10s [.i d0,.f c0,.f b0,.i y1,.f R0,.f N0,.f h2_])) (K (.exit 4) (buildS q10t [.i t1,.i t2,.i t9,.i p0,.i d0,.f c0,.f b0,.i m0,.f f0,.f e0,.f h2])):=by kernel_rfl
theorem q10v {α:Type}(N:Nat)(t1 t2 t9 p0 d0:Int)(c0 b0:NI)(m0:Int)(f0 e0 h2:NI)(K:AExit->St->Option α):∀ (m:Nat) (V0:Int),
  loopN (trimSt ((q10p α N).ann 181 10).head ((q10p α N).ann 181 10).grow 3) (bodyK Try.prog (q10p α N) 1 0 181 Try.f181 10) m (buildS q10r [.i t1,.i t2,.i t9,.i p0,.i V0,.i d0,.f c0,.f b0,.i m0,.f f0,.f e0,.f h2]) (leaveLoop ((q10p α N).ann 181 10) 3 K)=q0ea none N t1 t2 t9 p0 d0 c0 b0 m0 f0 e0 h2 m V0 (fun y1 R0 N0 h2_=>K .ret (buildS q10s [.i d0,.f c0,.f b0,.i y1,.f R0,.f N0,.f h2_])) (K (.exit 4) (buildS q10t [.i t1,.i t2,.i t9,.i p0,.i d0,.f c0,.f b0,.i m0,.f f0,.f e0,.f h2])):=by
 intro m
 induction m with
 | zero=>intros;rfl
 | succ m ih=>
  intro V0
  rw [q0bc]
  refine (q10u N t1 t2 t9 p0 V0 d0 c0 b0 m0 f0 e0 h2 _ K).trans ?_
  exact congrArg (fun kn=>q0e9 none N t1 t2 t9 p0 d0 c0 b0 m0 f0 e0 h2 V0 kn (fun y1 R0 N0 h2_=>K .ret (buildS q10s [.i d0,.f c0,.f b0,.i y1,.f R0,.f N0,.f h2_])) (K (.exit 4) (buildS q10t [.i t1,.i t2,.i t9,.i p0,.i d0,.f c0,.f b0,.i m0,.f f0,.f e0,.f h2]))) (funext fun V0=>ih V0)
def q10w (α:Type)(N:Nat):Env α:=(q10p α N).addLoop2 181 10 (loopSum2 ((q10p α N).ann 181 10) 0 q10r (fun l K=>match l with
  | [.i t1,.i t2,.i t9,.i p0,.i V0,.i d0,.f c0,.f b0,.i m0,.f f0,.f e0,.f h2]=>q0ea none N t1 t2 t9 p0 d0 c0 b0 m0 f0 e0 h2 N V0 (fun y1 R0 N0 h2_=>K .ret (buildS q10s [.i d0,.f c0,.f b0,.i y1,.f R0,.f N0,.f h2_])) (K (.exit 4) (buildS q10t [.i t1,.i t2,.i t9,.i p0,.i d0,.f c0,.f b0,.i m0,.f f0,.f e0,.f h2]))
  | _=>none) ((q10p α N).ls 181 10))
theorem q10x {α:Type}(N:Nat):EnvOk Try.prog (q10w α N):=(q10q N).addLoop2 Try.func181 (by kernel_rfl) (q0ba q0td q0te (q10q N) Try.func181 (by kernel_rfl) (d:=1) (ro:=0) fun l K r h=>by
 split at h
 ·exact (q10v N _ _ _ _ _ _ _ _ _ _ _ K N _).trans h
 ·cases h)
def q10y:SPat:=⟨[.undef,.int .i64,.int .i64,.ptr ⟨⟨0,0⟩,0,0,1⟩,.undef,.undef,.ptr ⟨⟨1,0⟩,0,0,1⟩,.ptr ⟨⟨2,0⟩,0,0,6⟩,.undef,.int .i64,.int .i64]++List.replicate 119 .undef,[[.vals [.int .i64],.ints .u8 8,.ints .u8 8],[.vals [.int .i64],.ints .u8 8,.ints .u8 8],[.ints .i64 6]]⟩
def q10z:SPat:=⟨[.undef,.undef,.undef,.undef,.undef,.undef,.ptr ⟨⟨1,0⟩,0,0,1⟩,.ptr ⟨⟨2,0⟩,0,0,6⟩,.boolC true]++List.replicate 121 .undef,[[.vals [.int .i64],.ints .u8 8,.ints .u8 8],[.vals [.int .i64],.ints .u8 8,.ints .u8 8],[.ints .i64 6]]⟩
def q110:SPat:=⟨[.undef,.int .i64,.int .i64,.ptr ⟨⟨0,0⟩,0,0,1⟩,.undef,.undef,.ptr ⟨⟨1,0⟩,0,0,1⟩,.ptr ⟨⟨2,0⟩,0,0,6⟩,.undef,.int .i64]++List.replicate 120 .undef,[[.vals [.int .i64],.ints .u8 8,.ints .u8 8],[.vals [.int .i64],.ints .u8 8,.ints .u8 8],[.ints .i64 6]]⟩
theorem q111 {α:Type}(N:Nat)(t1 t2 t9 p0 d0:Int)(c0 b0:NI)(m0:Int)(f0 e0 h2:NI)(kn:St->Option α)(K:AExit->St->Option α):
  roundK Try.prog (q10w α N) 1 0 181 Try.f181 7 3 (buildS q10y [.i t1,.i t2,.i t9,.i p0,.i d0,.f c0,.f b0,.i m0,.f f0,.f e0,.f h2]) kn K=q0eb none N t1 t2 t9 d0 c0 b0 m0 f0 e0 h2 p0 (fun p0=>kn (buildS q10y [.i t1,.i t2,.i t9,.i p0,.i d0,.f c0,.f b0,.i m0,.f f0,.f e0,.f h2])) (fun y1 R0 N0 h2_=>K .ret (buildS q10z [.i d0,.f c0,.f b0,.i y1,.f R0,.f N0,.f h2_])) (K (.exit 2) (buildS q110 [.i t1,.i t2,.i t9,.i d0,.f c0,.f b0,.i m0,.f f0,.f e0,.f h2])):=by kernel_rfl
theorem q112 {α:Type}(N:Nat)(t1 t2 t9 d0:Int)(c0 b0:NI)(m0:Int)(f0 e0 h2:NI)(K:AExit->St->Option α):∀ (m:Nat) (p0:Int),
  loopN (trimSt ((q10w α N).ann 181 7).head ((q10w α N).ann 181 7).grow 3) (bodyK Try.prog (q10w α N) 1 0 181 Try.f181 7) m (buildS q10y [.i t1,.i t2,.i t9,.i p0,.i d0,.f c0,.f b0,.i m0,.f f0,.f e0,.f h2]) (leaveLoop ((q10w α N).ann 181 7) 3 K)=q0ec none N t1 t2 t9 d0 c0 b0 m0 f0 e0 h2 m p0 (fun y1 R0 N0 h2_=>K .ret (buildS q10z [.i d0,.f c0,.f b0,.i y1,.f R0,.f N0,.f h2_])) (K (.exit 2) (buildS q110 [.i t1,.i t2,.i t9,.i d0,.f c0,.f b0,.i m0,.f f0,.f e0,.f h2])):=by
 intro m
 induction m with
 | zero=>intros;rfl
 | succ m ih=>
  intro p0
  rw [q0bc]
  refine (q111 N t1 t2 t9 p0 d0 c0 b0 m0 f0 e0 h2 _ K).trans ?_
  exact congrArg (fun kn=>q0eb none N t1 t2 t9 d0 c0 b0 m0 f0 e0 h2 p0 kn (fun y1 R0 N0 h2_=>K .ret (buildS q10z [.i d0,.f c0,.f b0,.i y1,.f R0,.f N0,.f h2_])) (K (.exit 2) (buildS q110 [.i t1,.i t2,.i t9,.i d0,.f c0,.f b0,.i m0,.f f0,.f e0,.f h2]))) (funext fun p0=>ih p0)
def q113 (α:Type)(N:Nat):Env α:=(q10w α N).addLoop2 181 7 (loopSum2 ((q10w α N).ann 181 7) 0 q10y (fun l K=>match l with
  | [.i t1,.i t2,.i t9,.i p0,.i d0,.f c0,.f b0,.i m0,.f f0,.f e0,.f h2]=>q0ec none N t1 t2 t9 d0 c0 b0 m0 f0 e0 h2 N p0 (fun y1 R0 N0 h2_=>K .ret (buildS q10z [.i d0,.f c0,.f b0,.i y1,.f R0,.f N0,.f h2_])) (K (.exit 2) (buildS q110 [.i t1,.i t2,.i t9,.i d0,.f c0,.f b0,.i m0,.f f0,.f e0,.f h2]))
  | _=>none) ((q10w α N).ls 181 7))
theorem q114 {α:Type}(N:Nat):EnvOk Try.prog (q113 α N):=(q10x N).addLoop2 Try.func181 (by kernel_rfl) (q0ba q0td q0te (q10x N) Try.func181 (by kernel_rfl) (d:=1) (ro:=0) fun l K r h=>by
 split at h
 ·exact (q112 N _ _ _ _ _ _ _ _ _ _ K N _).trans h
 ·cases h)
def q115:SPat:=⟨[.undef,.int .i64,.int .i64,.ptr ⟨⟨0,0⟩,0,0,1⟩,.undef,.undef,.ptr ⟨⟨1,0⟩,0,0,1⟩,.ptr ⟨⟨2,0⟩,0,0,6⟩,.undef,.int .i64]++List.replicate 120 .undef,[[.vals [.int .i64],.ints .u8 8,.ints .u8 8],[.vals [.int .i64],.ints .u8 8,.ints .u8 8],[.ints .i64 6]]⟩
def q116:SPat:=⟨[.undef,.undef,.undef,.undef,.undef,.undef,.ptr ⟨⟨1,0⟩,0,0,1⟩,.ptr ⟨⟨2,0⟩,0,0,6⟩,.boolC true]++List.replicate 121 .undef,[[.vals [.int .i64],.ints .u8 8,.ints .u8 8],[.vals [.int .i64],.ints .u8 8,.ints .u8 8],[.ints .i64 6]]⟩
def q117:SPat:=⟨[.undef,.undef,.undef,.undef,.undef,.undef,.ptr ⟨⟨1,0⟩,0,0,1⟩,.ptr ⟨⟨2,0⟩,0,0,6⟩]++List.replicate 122 .undef,[[.vals [.int .i64],.ints .u8 8,.ints .u8 8],[.vals [.int .i64],.ints .u8 8,.ints .u8 8],[.ints .i64 6]]⟩
theorem q118 {α:Type}(N:Nat)(t1 t2 t9 d0:Int)(c0 b0:NI)(m0:Int)(f0 e0 h2:NI)(kn:St->Option α)(K:AExit->St->Option α):
  roundK Try.prog (q113 α N) 1 0 181 Try.f181 4 3 (buildS q115 [.i t1,.i t2,.i t9,.i d0,.f c0,.f b0,.i m0,.f f0,.f e0,.f h2]) kn K=q0ed none N t1 t2 d0 c0 b0 m0 f0 e0 h2 t9 (fun t9=>kn (buildS q115 [.i t1,.i t2,.i t9,.i d0,.f c0,.f b0,.i m0,.f f0,.f e0,.f h2])) (fun y1 R0 N0 h2_=>K .ret (buildS q116 [.i d0,.f c0,.f b0,.i y1,.f R0,.f N0,.f h2_])) (K (.exit 0) (buildS q117 [.i d0,.f c0,.f b0,.i m0,.f f0,.f e0,.f h2])):=by kernel_rfl
theorem q119 {α:Type}(N:Nat)(t1 t2 d0:Int)(c0 b0:NI)(m0:Int)(f0 e0 h2:NI)(K:AExit->St->Option α):∀ (m:Nat) (t9:Int),
  loopN (trimSt ((q113 α N).ann 181 4).head ((q113 α N).ann 181 4).grow 3) (bodyK Try.prog (q113 α N) 1 0 181 Try.f181 4) m (buildS q115 [.i t1,.i t2,.i t9,.i d0,.f c0,.f b0,.i m0,.f f0,.f e0,.f h2]) (leaveLoop ((q113 α N).ann 181 4) 3 K)=q0ee none N t1 t2 d0 c0 b0 m0 f0 e0 h2 m t9 (fun y1 R0 N0 h2_=>K .ret (buildS q116 [.i d0,.f c0,.f b0,.i y1,.f R0,.f N0,.f h2_])) (K (.exit 0) (buildS q117 [.i d0,.f c0,.f b0,.i m0,.f f0,.f e0,.f h2])):=by
 intro m
 induction m with
 | zero=>intros;rfl
 | succ m ih=>
  intro t9
  rw [q0bc]
  refine (q118 N t1 t2 t9 d0 c0 b0 m0 f0 e0 h2 _ K).trans ?_
  exact congrArg (fun kn=>q0ed none N t1 t2 d0 c0 b0 m0 f0 e0 h2 t9 kn (fun y1 R0 N0 h2_=>K .ret (buildS q116 [.i d0,.f c0,.f b0,.i y1,.f R0,.f N0,.f h2_])) (K (.exit 0) (buildS q117 [.i d0,.f c0,.f b0,.i m0,.f f0,.f e0,.f h2]))) (funext fun t9=>ih t9)
def q11a (α:Type)(N:Nat):Env α:=(q113 α N).addLoop2 181 4 (loopSum2 ((q113 α N).ann 181 4) 0 q115 (fun l K=>match l with
  | [.i t1,.i t2,.i t9,.i d0,.f c0,.f b0,.i m0,.f f0,.f e0,.f h2]=>q0ee none N t1 t2 d0 c0 b0 m0 f0 e0 h2 N t9 (fun y1 R0 N0 h2_=>K .ret (buildS q116 [.i d0,.f c0,.f b0,.i y1,.f R0,.f N0,.f h2_])) (K (.exit 0) (buildS q117 [.i d0,.f c0,.f b0,.i m0,.f f0,.f e0,.f h2]))
  | _=>none) ((q113 α N).ls 181 4))
theorem q11b {α:Type}(N:Nat):EnvOk Try.prog (q11a α N):=(q114 N).addLoop2 Try.func181 (by kernel_rfl) (q0ba q0td q0te (q114 N) Try.func181 (by kernel_rfl) (d:=1) (ro:=0) fun l K r h=>by
 split at h
 ·exact (q119 N _ _ _ _ _ _ _ _ _ K N _).trans h
 ·cases h)
def q11c:SPat:=⟨[.agg [.vals [.int .i64],.ints .u8 8,.ints .u8 8],.int .i64,.int .i64],[]⟩
def q11d:SPat:=⟨[.tuple [.agg [.vals [.int .i64],.ints .u8 8,.ints .u8 8],.agg [.ints .i64 6],.bool]],[]⟩
theorem q11e {α:Type}(N:Nat)(g0:Int)(i0 j0:NI)(a1 a2:Int)(K:AV->Heap->Option α):
  callK Try.prog (q11a α N) 1 181 0 (buildS q11c [.i g0,.f i0,.f j0,.i a1,.i a2]).t (buildS q11c [.i g0,.f i0,.f j0,.i a1,.i a2]).h K=q0ef none N g0 i0 j0 a1 a2 (fun w2 x2 y2 C0 B1=>retK (buildS q11d [.i w2,.f x2,.f y2,.f C0,.b B1]) K):=by kernel_rfl
def q11f (α:Type)(N:Nat):Env α:=(q11a α N).addFun 181 true 0 q11c (fun l K=>match l with
  | [.i g0,.f i0,.f j0,.i a1,.i a2]=>q0ef none N g0 i0 j0 a1 a2 (fun w2 x2 y2 C0 B1=>retK (buildS q11d [.i w2,.f x2,.f y2,.f C0,.b B1]) K)
  | _=>none)
theorem q11g {α:Type}(N:Nat):EnvOk Try.prog (q11f α N):=(q11b N).addFun q0td q0te (d:=1) fun l K r h=>by
 split at h
 ·exact (q11e N _ _ _ _ _ K).trans h
 ·cases h
def q11h:SPat:=⟨[.undef,.ptr ⟨⟨0,0⟩,0,0,1⟩,.undef,.sliceV 2 0 0 1 false,.int .i64,.int .i64]++List.replicate 34 .undef,[[.vals [.int .i64],.ints .u8 8,.ints .u8 8],[.pool .i64],[.hdr 1]]⟩
def q11i:SPat:=⟨[.undef,.ptr ⟨⟨0,0⟩,0,0,1⟩,.undef,.sliceV 2 0 0 1 false,.int .i64]++List.replicate 35 .undef,[[.vals [.int .i64],.ints .u8 8,.ints .u8 8],[.pool .i64],[.hdr 1]]⟩
theorem q11j {α:Type}(N X1 J1 Z1:Nat)(i r_ d0:Int)(c0 b0:NI)(h1:List (List Int))(h2:List (Nat×Nat))(kn:St->Option α)(K:AExit->St->Option α):
  roundK Try.prog (q11f α N) 1 0 216 Try.f216 6 3 (buildS q11h [.n X1,.n J1,.n Z1,.i i,.i r_,.i d0,.f c0,.f b0,.r h1,.p h2]) kn K=q0gf none N i d0 c0 b0 X1 J1 Z1 r_ h1 h2 (fun X1 J1 Z1 r_ h1 h2=>kn (buildS q11h [.n X1,.n J1,.n Z1,.i i,.i r_,.i d0,.f c0,.f b0,.r h1,.p h2])) (fun F3 G3 H3 h1_ h2_=>K (.exit 2) (buildS q11i [.n F3,.n G3,.n H3,.i i,.i d0,.f c0,.f b0,.r h1_,.p h2_])):=by kernel_rfl
theorem q11k {α:Type}(N:Nat)(i d0:Int)(c0 b0:NI)(K:AExit->St->Option α):∀ (m X1 J1 Z1:Nat) (r_:Int) (h1:List (List Int)) (h2:List (Nat×Nat)),
  loopN (trimSt ((q11f α N).ann 216 6).head ((q11f α N).ann 216 6).grow 3) (bodyK Try.prog (q11f α N) 1 0 216 Try.f216 6) m (buildS q11h [.n X1,.n J1,.n Z1,.i i,.i r_,.i d0,.f c0,.f b0,.r h1,.p h2]) (leaveLoop ((q11f α N).ann 216 6) 3 K)=q0gg none N i d0 c0 b0 m X1 J1 Z1 r_ h1 h2 (fun F3 G3 H3 h1_ h2_=>K (.exit 2) (buildS q11i [.n F3,.n G3,.n H3,.i i,.i d0,.f c0,.f b0,.r h1_,.p h2_])):=by
 intro m
 induction m with
 | zero=>intros;rfl
 | succ m ih=>
  intro X1 J1 Z1 r_ h1 h2
  rw [q0bc]
  refine (q11j N X1 J1 Z1 i r_ d0 c0 b0 h1 h2 _ K).trans ?_
  exact congrArg (fun kn=>q0gf none N i d0 c0 b0 X1 J1 Z1 r_ h1 h2 kn (fun F3 G3 H3 h1_ h2_=>K (.exit 2) (buildS q11i [.n F3,.n G3,.n H3,.i i,.i d0,.f c0,.f b0,.r h1_,.p h2_]))) (funext fun X1=>funext fun J1=>funext fun Z1=>funext fun r_=>funext fun h1=>funext fun h2=>ih X1 J1 Z1 r_ h1 h2)
def q11l (α:Type)(N:Nat):Env α:=(q11f α N).addLoop2 216 6 (loopSum2 ((q11f α N).ann 216 6) 0 q11h (fun l K=>match l with
  | [.n X1,.n J1,.n Z1,.i i,.i r_,.i d0,.f c0,.f b0,.r h1,.p h2]=>q0gg none N i d0 c0 b0 N X1 J1 Z1 r_ h1 h2 (fun F3 G3 H3 h1_ h2_=>K (.exit 2) (buildS q11i [.n F3,.n G3,.n H3,.i i,.i d0,.f c0,.f b0,.r h1_,.p h2_]))
  | _=>none) ((q11f α N).ls 216 6))
theorem q11m {α:Type}(N:Nat):EnvOk Try.prog (q11l α N):=(q11g N).addLoop2 Try.func216 (by kernel_rfl) (q0ba q0td q0te (q11g N) Try.func216 (by kernel_rfl) (d:=1) (ro:=0) fun l K r h=>by
 split at h
 ·exact (q11k N _ _ _ _ K N _ _ _ _ _ _).trans h
 ·cases h)
def q11n:SPat:=⟨[.undef,.ptr ⟨⟨0,0⟩,0,0,1⟩,.undef,.sliceV 2 0 0 1 false,.int .i64]++List.replicate 35 .undef,[[.vals [.int .i64],.ints .u8 8,.ints .u8 8],[.pool .i64],[.hdr 1]]⟩
def q11o:SPat:=⟨[.undef,.undef,.undef,.sliceV 2 0 0 1 false]++List.replicate 36 .undef,[[.vals [.int .i64],.ints .u8 8,.ints .u8 8],[.pool .i64],[.hdr 1]]⟩
theorem q11p {α:Type}(N X1 J1 Z1:Nat)(i d0:Int)(c0 b0:NI)(h1:List (List Int))(h2:List (Nat×Nat))(kn:St->Option α)(K:AExit->St->Option α):
  roundK Try.prog (q11l α N) 1 0 216 Try.f216 3 3 (buildS q11n [.n X1,.n J1,.n Z1,.i i,.i d0,.f c0,.f b0,.r h1,.p h2]) kn K=q0gh none N d0 c0 b0 X1 J1 Z1 i h1 h2 (fun X1 J1 Z1 i h1 h2=>kn (buildS q11n [.n X1,.n J1,.n Z1,.i i,.i d0,.f c0,.f b0,.r h1,.p h2])) (fun F3 G3 H3 h1_ h2_=>K (.exit 0) (buildS q11o [.n F3,.n G3,.n H3,.i d0,.f c0,.f b0,.r h1_,.p h2_])):=by kernel_rfl
theorem q11q {α:Type}(N:Nat)(d0:Int)(c0 b0:NI)(K:AExit->St->Option α):∀ (m X1 J1 Z1:Nat) (i:Int) (h1:List (List Int)) (h2:List (Nat×Nat)),
  loopN (trimSt ((q11l α N).ann 216 3).head ((q11l α N).ann 216 3).grow 3) (bodyK Try.prog (q11l α N) 1 0 216 Try.f216 3) m (buildS q11n [.n X1,.n J1,.n Z1,.i i,.i d0,.f c0,.f b0,.r h1,.p h2]) (leaveLoop ((q11l α N).ann 216 3) 3 K)=q0gi none N d0 c0 b0 m X1 J1 Z1 i h1 h2 (fun F3 G3 H3 h1_ h2_=>K (.exit 0) (buildS q11o [.n F3,.n G3,.n H3,.i d0,.f c0,.f b0,.r h1_,.p h2_])):=by
 intro m
 induction m with
 | zero=>intros;rfl
 | succ m ih=>
  intro X1 J1 Z1 i h1 h2
  rw [q0bc]
  refine (q11p N X1 J1 Z1 i d0 c0 b0 h1 h2 _ K).trans ?_
  exact congrArg (fun kn=>q0gh none N d0 c0 b0 X1 J1 Z1 i h1 h2 kn (fun F3 G3 H3 h1_ h2_=>K (.exit 0) (buildS q11o [.n F3,.n G3,.n H3,.i d0,.f c0,.f b0,.r h1_,.p h2_]))) (funext fun X1=>funext fun J1=>funext fun Z1=>funext fun i=>funext fun h1=>funext fun h2=>ih X1 J1 Z1 i h1 h2)
def q11r (α:Type)(N:Nat):Env α:=(q11l α N).addLoop2 216 3 (loopSum2 ((q11l α N).ann 216 3) 0 q11n (fun l K=>match l with
  | [.n X1,.n J1,.n Z1,.i i,.i d0,.f c0,.f b0,.r h1,.p h2]=>q0gi none N d0 c0 b0 N X1 J1 Z1 i h1 h2 (fun F3 G3 H3 h1_ h2_=>K (.exit 0) (buildS q11o [.n F3,.n G3,.n H3,.i d0,.f c0,.f b0,.r h1_,.p h2_]))
  | _=>none) ((q11l α N).ls 216 3))
theorem q11s {α:Type}(N:Nat):EnvOk Try.prog (q11r α N):=(q11m N).addLoop2 Try.func216 (by kernel_rfl) (q0ba q0td q0te (q11m N) Try.func216 (by kernel_rfl) (d:=1) (ro:=0) fun l K r h=>by
 split at h
 ·exact (q11q N _ _ _ K N _ _ _ _ _ _).trans h
 ·cases h)
def q11t:SPat:=⟨[.agg [.vals [.int .i64],.ints .u8 8,.ints .u8 8]],[]⟩
def q11u:SPat:=⟨[.sliceV 0 0 0 1 false],[[.hdr 1],[.pool .i64]]⟩
theorem q11v {α:Type}(N:Nat)(g0:Int)(i0 j0:NI)(K:AV->Heap->Option α):
  callK Try.prog (q11r α N) 1 216 0 (buildS q11t [.i g0,.f i0,.f j0]).t (buildS q11t [.i g0,.f i0,.f j0]).h K=q0gj none N g0 i0 j0 (fun b3 c3 d3 h0_ h1_=>retK (buildS q11u [.n b3,.n c3,.n d3,.p h0_,.r h1_]) K):=by kernel_rfl
def q11w (α:Type)(N:Nat):Env α:=(q11r α N).addFun 216 true 0 q11t (fun l K=>match l with
  | [.i g0,.f i0,.f j0]=>q0gj none N g0 i0 j0 (fun b3 c3 d3 h0_ h1_=>retK (buildS q11u [.n b3,.n c3,.n d3,.p h0_,.r h1_]) K)
  | _=>none)
theorem q11x {α:Type}(N:Nat):EnvOk Try.prog (q11w α N):=(q11s N).addFun q0td q0te (d:=1) fun l K r h=>by
 split at h
 ·exact (q11v N _ _ _ K).trans h
 ·cases h
def q11y (α:Type)(N:Nat):Env α:=(q11w α N).addAnn 186 21 { head:=[3,9,10],grow:=[3],out:=[3],ret:=[2] }
theorem q11z {α:Type}(N:Nat):EnvOk Try.prog (q11y α N):=(q11x N).addAnn
def q120:SPat:=⟨[.undef,.undef,.undef,.sliceV 1 0 0 6 false,.undef,.undef,.undef,.undef,.undef,.sliceV 2 0 0 1 false,.int .i64]++List.replicate 81 .undef,[[.vals [.int .i64],.ints .u8 8,.ints .u8 8],[.vec .i64],[.hdr 3],[.pool .i64]]⟩
def q121:SPat:=⟨[.undef,.undef,.undef,.sliceV 1 0 0 6 false]++List.replicate 88 .undef,[[.vals [.int .i64],.ints .u8 8,.ints .u8 8],[.vec .i64],[.hdr 3],[.pool .i64]]⟩
theorem q122 {α:Type}(N W0 M0 Y0 s3 u3 S3:Nat)(p0 d0:Int)(c0 b0:NI)(h1:List Int)(h2:List (Nat×Nat))(h3:List (List Int))(kn:St->Option α)(K:AExit->St->Option α):
  roundK Try.prog (q11y α N) 1 0 186 Try.f186 21 4 (buildS q120 [.n W0,.n M0,.n Y0,.n s3,.n u3,.n S3,.i p0,.i d0,.f c0,.f b0,.l h1,.p h2,.r h3]) kn K=q0gk none s3 u3 S3 d0 c0 b0 h2 h3 W0 M0 Y0 p0 h1 (fun W0 M0 Y0 p0 h1=>kn (buildS q120 [.n W0,.n M0,.n Y0,.n s3,.n u3,.n S3,.i p0,.i d0,.f c0,.f b0,.l h1,.p h2,.r h3])) (fun s2 u2 v2 h1_=>K (.exit 8) (buildS q121 [.n s2,.n u2,.n v2,.i d0,.f c0,.f b0,.l h1_,.p h2,.r h3])):=by kernel_rfl
theorem q123 {α:Type}(N s3 u3 S3:Nat)(d0:Int)(c0 b0:NI)(h2:List (Nat×Nat))(h3:List (List Int))(K:AExit->St->Option α):∀ (m W0 M0 Y0:Nat) (p0:Int) (h1:List Int),
  loopN (trimSt ((q11y α N).ann 186 21).head ((q11y α N).ann 186 21).grow 4) (bodyK Try.prog (q11y α N) 1 0 186 Try.f186 21) m (buildS q120 [.n W0,.n M0,.n Y0,.n s3,.n u3,.n S3,.i p0,.i d0,.f c0,.f b0,.l h1,.p h2,.r h3]) (leaveLoop ((q11y α N).ann 186 21) 4 K)=q0gl none s3 u3 S3 d0 c0 b0 h2 h3 m W0 M0 Y0 p0 h1 (fun s2 u2 v2 h1_=>K (.exit 8) (buildS q121 [.n s2,.n u2,.n v2,.i d0,.f c0,.f b0,.l h1_,.p h2,.r h3])):=by
 intro m
 induction m with
 | zero=>intros;rfl
 | succ m ih=>
  intro W0 M0 Y0 p0 h1
  rw [q0bc]
  refine (q122 N W0 M0 Y0 s3 u3 S3 p0 d0 c0 b0 h1 h2 h3 _ K).trans ?_
  exact congrArg (fun kn=>q0gk none s3 u3 S3 d0 c0 b0 h2 h3 W0 M0 Y0 p0 h1 kn (fun s2 u2 v2 h1_=>K (.exit 8) (buildS q121 [.n s2,.n u2,.n v2,.i d0,.f c0,.f b0,.l h1_,.p h2,.r h3]))) (funext fun W0=>funext fun M0=>funext fun Y0=>funext fun p0=>funext fun h1=>ih W0 M0 Y0 p0 h1)
def q124 (α:Type)(N:Nat):Env α:=(q11y α N).addLoop2 186 21 (loopSum2 ((q11y α N).ann 186 21) 0 q120 (fun l K=>match l with
  | [.n W0,.n M0,.n Y0,.n s3,.n u3,.n S3,.i p0,.i d0,.f c0,.f b0,.l h1,.p h2,.r h3]=>q0gl none s3 u3 S3 d0 c0 b0 h2 h3 N W0 M0 Y0 p0 h1 (fun s2 u2 v2 h1_=>K (.exit 8) (buildS q121 [.n s2,.n u2,.n v2,.i d0,.f c0,.f b0,.l h1_,.p h2,.r h3]))
  | _=>none) ((q11y α N).ls 186 21))
theorem q125 {α:Type}(N:Nat):EnvOk Try.prog (q124 α N):=(q11z N).addLoop2 Try.func186 (by kernel_rfl) (q0ba q0td q0te (q11z N) Try.func186 (by kernel_rfl) (d:=1) (ro:=0) fun l K r h=>by
 split at h
 ·exact (q123 N _ _ _ _ _ _ _ _ K N _ _ _ _ _).trans h
 ·cases h)
def q126:SPat:=⟨[.agg [.vals [.int .i64],.ints .u8 8,.ints .u8 8]],[]⟩
def q127:SPat:=⟨[.sliceV 0 0 0 6 false],[[.vec .i64]]⟩
theorem q128 {α:Type}(N:Nat)(g0:Int)(i0 j0:NI)(K:AV->Heap->Option α):
  callK Try.prog (q124 α N) 1 186 0 (buildS q126 [.i g0,.f i0,.f j0]).t (buildS q126 [.i g0,.f i0,.f j0]).h K=q0gm none N g0 i0 j0 (fun b3 c3 d3 h0_=>retK (buildS q127 [.n b3,.n c3,.n d3,.l h0_]) K):=by kernel_rfl
def q129 (α:Type)(N:Nat):Env α:=(q124 α N).addFun 186 true 0 q126 (fun l K=>match l with
  | [.i g0,.f i0,.f j0]=>q0gm none N g0 i0 j0 (fun b3 c3 d3 h0_=>retK (buildS q127 [.n b3,.n c3,.n d3,.l h0_]) K)
  | _=>none)
theorem q12a {α:Type}(N:Nat):EnvOk Try.prog (q129 α N):=(q125 N).addFun q0td q0te (d:=1) fun l K r h=>by
 split at h
 ·exact (q128 N _ _ _ K).trans h
 ·cases h
def q12b:SPat:=⟨[.agg [.vals [.int .i64],.ints .u8 8,.ints .u8 8]],[]⟩
def q12c:SPat:=⟨[.tuple [.nils,.int .i64]],[]⟩
def q12d:SPat:=⟨[.tuple [.sliceV 0 0 0 6 false,.int .i64]],[[.vec .i64]]⟩
theorem q12e {α:Type}(N:Nat)(g0:Int)(i0 j0:NI)(K:AV->Heap->Option α):
  callK Try.prog (q129 α N) 1 86 0 (buildS q12b [.i g0,.f i0,.f j0]).t (buildS q12b [.i g0,.f i0,.f j0]).h K=q0gn none N g0 i0 j0 (fun C0=>retK (buildS q12c [.i C0]) K) (fun Q2 R2 S2 C0 h0_=>retK (buildS q12d [.n Q2,.n R2,.n S2,.i C0,.l h0_]) K):=by kernel_rfl
def q12f (α:Type)(N:Nat):Env α:=(q129 α N).addFun 86 true 0 q12b (fun l K=>match l with
  | [.i g0,.f i0,.f j0]=>q0gn none N g0 i0 j0 (fun C0=>retK (buildS q12c [.i C0]) K) (fun Q2 R2 S2 C0 h0_=>retK (buildS q12d [.n Q2,.n R2,.n S2,.i C0,.l h0_]) K)
  | _=>none)
theorem q12g {α:Type}(N:Nat):EnvOk Try.prog (q12f α N):=(q12a N).addFun q0td q0te (d:=1) fun l K r h=>by
 split at h
 ·exact (q12e N _ _ _ K).trans h
 ·cases h
def q12h:SPat:=⟨[.ptr ⟨⟨1,0⟩,0,0,3⟩,.agg [.vals [.int .i64],.ints .u8 8,.ints .u8 8]],[[.intsV .u8],[.vals [.sliceV 0 0 0 1 false,.int .i64,.int .u64]]]⟩
def q12i:SPat:=⟨[.agg [.ints .i64 6]],[[.intsV .u8],[.vals [.sliceV 0 0 0 1 false,.int .i64,.int .u64]]]⟩
theorem q12j {α:Type}(N:Nat)(g0:Int)(i0 j0:NI)(l0:Nat)(h0:NI)(u0 s0 v0:Nat)(f0 e0:Int)(K:AV->Heap->Option α):
  callK Try.prog (q12f α N) 1 187 1 (buildS q12h [.i g0,.f i0,.f j0,.n l0,.f h0,.n u0,.n s0,.n v0,.i f0,.i e0]).t (buildS q12h [.i g0,.f i0,.f j0,.n l0,.f h0,.n u0,.n s0,.n v0,.i f0,.i e0]).h K=q0go none N g0 i0 j0 l0 h0 u0 s0 v0 f0 e0 (fun r__ R0 N0=>retK (buildS q12i [.f r__,.n l0,.f h0,.n u0,.n s0,.n v0,.i R0,.i N0]) K):=by kernel_rfl
def q12k (α:Type)(N:Nat):Env α:=(q12f α N).addFun 187 false 1 q12h (fun l K=>match l with
  | [.i g0,.f i0,.f j0,.n l0,.f h0,.n u0,.n s0,.n v0,.i f0,.i e0]=>q0go none N g0 i0 j0 l0 h0 u0 s0 v0 f0 e0 (fun r__ R0 N0=>retK (buildS q12i [.f r__,.n l0,.f h0,.n u0,.n s0,.n v0,.i R0,.i N0]) K)
  | _=>none)
theorem q12l {α:Type}(N:Nat):EnvOk Try.prog (q12k α N):=(q12g N).addFun q0td q0te (d:=1) fun l K r h=>by
 split at h
 ·exact (q12j N _ _ _ _ _ _ _ _ _ _ K).trans h
 ·cases h
def q12m:SPat:=⟨[.sliceV 0 0 0 1 false],[[.intsV .u8]]⟩
def q12n:SPat:=⟨[.tuple [.agg [.vals [.int .i64],.ints .u8 8,.ints .u8 8],.agg [.ints .i64 6]]],[[.intsV .u8]]⟩
theorem q12o {α:Type}(N o1 j1 q1 l0:Nat)(h0:NI)(K:AV->Heap->Option α):
  callK Try.prog (q12k α N) 1 173 1 (buildS q12m [.n o1,.n j1,.n q1,.n l0,.f h0]).t (buildS q12m [.n o1,.n j1,.n q1,.n l0,.f h0]).h K=q0gp none N o1 j1 q1 l0 h0 (fun w2 x2 y2 C0=>retK (buildS q12n [.i w2,.f x2,.f y2,.f C0,.n l0,.f h0]) K):=by kernel_rfl
def q12p (α:Type)(N:Nat):Env α:=(q12k α N).addFun 173 true 1 q12m (fun l K=>match l with
  | [.n o1,.n j1,.n q1,.n l0,.f h0]=>q0gp none N o1 j1 q1 l0 h0 (fun w2 x2 y2 C0=>retK (buildS q12n [.i w2,.f x2,.f y2,.f C0,.n l0,.f h0]) K)
  | _=>none)
theorem q12q {α:Type}(N:Nat):EnvOk Try.prog (q12p α N):=(q12l N).addFun q0td q0te (d:=1) fun l K r h=>by
 split at h
 ·exact (q12o N _ _ _ _ _ K).trans h
 ·cases h
def q12r:SPat:=⟨[.sliceV 0 0 0 1 false],[[.intsV .u8]]⟩
def q12s:SPat:=⟨[.tuple [.agg [.vals [.int .i64],.ints .u8 8,.ints .u8 8],.agg [.ints .i64 6]]],[[.intsV .u8]]⟩
theorem q12t {α:Type}(N o1 j1 q1 l0:Nat)(h0:NI)(K:AV->Heap->Option α):
  callK Try.prog (q12p α N) 1 77 1 (buildS q12r [.n o1,.n j1,.n q1,.n l0,.f h0]).t (buildS q12r [.n o1,.n j1,.n q1,.n l0,.f h0]).h K=q0gq none N o1 j1 q1 l0 h0 (fun w2 x2 y2 C0=>retK (buildS q12s [.i w2,.f x2,.f y2,.f C0,.n l0,.f h0]) K):=by kernel_rfl
def q12u (α:Type)(N:Nat):Env α:=(q12p α N).addFun 77 true 1 q12r (fun l K=>match l with
  | [.n o1,.n j1,.n q1,.n l0,.f h0]=>q0gq none N o1 j1 q1 l0 h0 (fun w2 x2 y2 C0=>retK (buildS q12s [.i w2,.f x2,.f y2,.f C0,.n l0,.f h0]) K)
  | _=>none)
theorem q12v {α:Type}(N:Nat):EnvOk Try.prog (q12u α N):=(q12q N).addFun q0td q0te (d:=1) fun l K r h=>by
 split at h
 ·exact (q12t N _ _ _ _ _ K).trans h
 ·cases h
def q12w:SPat:=⟨[.int .i64,.int .i64,.int .i64],[]⟩
def q12x:SPat:=⟨[.bool],[]⟩
theorem q12y {α:Type}(N:Nat)(x low high:Int)(K:AV->Heap->Option α):
  callK Try.prog (q12u α N) 1 117 0 (buildS q12w [.i x,.i low,.i high]).t (buildS q12w [.i x,.i low,.i high]).h K=q0c7 none N x low high (fun r__=>retK (buildS q12x [.b r__]) K):=by kernel_rfl
def q12z (α:Type)(N:Nat):Env α:=(q12u α N).addFun 117 true 0 q12w (fun l K=>match l with
  | [.i x,.i low,.i high]=>q0c7 none N x low high (fun r__=>retK (buildS q12x [.b r__]) K)
  | _=>none)
theorem q130 {α:Type}(N:Nat):EnvOk Try.prog (q12z α N):=(q12v N).addFun q0td q0te (d:=1) fun l K r h=>by
 split at h
 ·exact (q12y N _ _ _ K).trans h
 ·cases h
def q131:SPat:=⟨[.agg [.vals [.int .i64],.ints .u8 8,.ints .u8 8]],[]⟩
def q132:SPat:=⟨[.int .i64],[]⟩
theorem q133 {α:Type}(N:Nat)(g0:Int)(i0 j0:NI)(K:AV->Heap->Option α):
  callK Try.prog (q12z α N) 1 106 0 (buildS q131 [.i g0,.f i0,.f j0]).t (buildS q131 [.i g0,.f i0,.f j0]).h K=q0ce none N g0 i0 j0 (retK (buildS q132 [.i g0]) K):=by kernel_rfl
def q134 (α:Type)(N:Nat):Env α:=(q12z α N).addFun 106 true 0 q131 (fun l K=>match l with
  | [.i g0,.f i0,.f j0]=>q0ce none N g0 i0 j0 (retK (buildS q132 [.i g0]) K)
  | _=>none)
theorem q135 {α:Type}(N:Nat):EnvOk Try.prog (q134 α N):=(q130 N).addFun q0td q0te (d:=1) fun l K r h=>by
 split at h
 ·exact (q133 N _ _ _ K).trans h
 ·cases h
def q136 (α:Type)(N:Nat):Env α:=(q134 α N).addAnn 195 3 { head:=[1,5,8,9,10],grow:=[],out:=[1,5],ret:=[4] }
theorem q137 {α:Type}(N:Nat):EnvOk Try.prog (q136 α N):=(q135 N).addAnn
def q138:SPat:=⟨[.undef,.int .i64,.undef,.undef,.undef,.int .i64,.undef,.undef,.slice ⟨⟨0,0⟩,1,0,8⟩ 8 8 1 true,.intC .i64 8,.int .i64]++List.replicate 30 .undef,[[.vals [.int .i64],.ints .u8 8,.ints .u8 8]]⟩
def q139:SPat:=⟨[.undef,.undef,.undef,.undef,.boolC false]++List.replicate 36 .undef,[[.vals [.int .i64],.ints .u8 8,.ints .u8 8]]⟩
def q13a:SPat:=⟨[.undef,.int .i64,.undef,.undef,.undef,.int .i64]++List.replicate 35 .undef,[[.vals [.int .i64],.ints .u8 8,.ints .u8 8]]⟩
theorem q13b {α:Type}(N:Nat)(n seen p0 d0:Int)(c0 b0:NI)(kn:St->Option α)(K:AExit->St->Option α):
  roundK Try.prog (q136 α N) 1 1 195 Try.f195 3 1 (buildS q138 [.i n,.i seen,.i p0,.i d0,.f c0,.f b0]) kn K=q0cf none n d0 c0 b0 seen p0 (fun seen p0=>kn (buildS q138 [.i n,.i seen,.i p0,.i d0,.f c0,.f b0])) (K .ret (buildS q139 [.i d0,.f c0,.f b0])) (fun seen_=>K (.exit 0) (buildS q13a [.i n,.i seen_,.i d0,.f c0,.f b0])):=by kernel_rfl
theorem q13c {α:Type}(N:Nat)(n d0:Int)(c0 b0:NI)(K:AExit->St->Option α):∀ (m:Nat) (seen p0:Int),
  loopN (trimSt ((q136 α N).ann 195 3).head ((q136 α N).ann 195 3).grow 1) (bodyK Try.prog (q136 α N) 1 1 195 Try.f195 3) m (buildS q138 [.i n,.i seen,.i p0,.i d0,.f c0,.f b0]) (leaveLoop ((q136 α N).ann 195 3) 1 K)=q0cg none n d0 c0 b0 m seen p0 (K .ret (buildS q139 [.i d0,.f c0,.f b0])) (fun seen_=>K (.exit 0) (buildS q13a [.i n,.i seen_,.i d0,.f c0,.f b0])):=by
 intro m
 induction m with
 | zero=>intros;rfl
 | succ m ih=>
  intro seen p0
  rw [q0bc]
  refine (q13b N n seen p0 d0 c0 b0 _ K).trans ?_
  exact congrArg (fun kn=>q0cf none n d0 c0 b0 seen p0 kn (K .ret (buildS q139 [.i d0,.f c0,.f b0])) (fun seen_=>K (.exit 0) (buildS q13a [.i n,.i seen_,.i d0,.f c0,.f b0]))) (funext fun seen=>funext fun p0=>ih seen p0)
def q13d (α:Type)(N:Nat):Env α:=(q136 α N).addLoop2 195 3 (loopSum2 ((q136 α N).ann 195 3) 1 q138 (fun l K=>match l with
  | [.i n,.i seen,.i p0,.i d0,.f c0,.f b0]=>q0cg none n d0 c0 b0 N seen p0 (K .ret (buildS q139 [.i d0,.f c0,.f b0])) (fun seen_=>K (.exit 0) (buildS q13a [.i n,.i seen_,.i d0,.f c0,.f b0]))
  | _=>none) ((q136 α N).ls 195 3))
theorem q13e {α:Type}(N:Nat):EnvOk Try.prog (q13d α N):=(q137 N).addLoop2 Try.func195 (by kernel_rfl) (q0ba q0td q0te (q137 N) Try.func195 (by kernel_rfl) (d:=1) (ro:=1) fun l K r h=>by
 split at h
 ·exact (q13c N _ _ _ _ K N _ _).trans h
 ·cases h)
def q13f:SPat:=⟨[.slice ⟨⟨0,0⟩,1,0,8⟩ 8 8 1 true,.int .i64],[[.vals [.int .i64],.ints .u8 8,.ints .u8 8]]⟩
def q13g:SPat:=⟨[.bool],[[.vals [.int .i64],.ints .u8 8,.ints .u8 8]]⟩
theorem q13h {α:Type}(N:Nat)(n d0:Int)(c0 b0:NI)(K:AV->Heap->Option α):
  callK Try.prog (q13d α N) 1 195 1 (buildS q13f [.i n,.i d0,.f c0,.f b0]).t (buildS q13f [.i n,.i d0,.f c0,.f b0]).h K=q0ch none N n d0 c0 b0 (fun r__=>retK (buildS q13g [.b r__,.i d0,.f c0,.f b0]) K):=by kernel_rfl
def q13i (α:Type)(N:Nat):Env α:=(q13d α N).addFun 195 true 1 q13f (fun l K=>match l with
  | [.i n,.i d0,.f c0,.f b0]=>q0ch none N n d0 c0 b0 (fun r__=>retK (buildS q13g [.b r__,.i d0,.f c0,.f b0]) K)
  | _=>none)
theorem q13j {α:Type}(N:Nat):EnvOk Try.prog (q13i α N):=(q13e N).addFun q0td q0te (d:=1) fun l K r h=>by
 split at h
 ·exact (q13h N _ _ _ _ K).trans h
 ·cases h
def q13k:SPat:=⟨[.undef,.int .i64,.undef,.undef,.undef,.int .i64,.undef,.undef,.slice ⟨⟨0,0⟩,2,0,8⟩ 8 8 1 true,.intC .i64 8,.int .i64]++List.replicate 30 .undef,[[.vals [.int .i64],.ints .u8 8,.ints .u8 8]]⟩
def q13l:SPat:=⟨[.undef,.undef,.undef,.undef,.boolC false]++List.replicate 36 .undef,[[.vals [.int .i64],.ints .u8 8,.ints .u8 8]]⟩
def q13m:SPat:=⟨[.undef,.int .i64,.undef,.undef,.undef,.int .i64]++List.replicate 35 .undef,[[.vals [.int .i64],.ints .u8 8,.ints .u8 8]]⟩
theorem q13n {α:Type}(N:Nat)(n seen p0 d0:Int)(c0 b0:NI)(kn:St->Option α)(K:AExit->St->Option α):
  roundK Try.prog (q13i α N) 1 1 195 Try.f195 3 1 (buildS q13k [.i n,.i seen,.i p0,.i d0,.f c0,.f b0]) kn K=q0ci none n d0 c0 b0 seen p0 (fun seen p0=>kn (buildS q13k [.i n,.i seen,.i p0,.i d0,.f c0,.f b0])) (K .ret (buildS q13l [.i d0,.f c0,.f b0])) (fun seen_=>K (.exit 0) (buildS q13m [.i n,.i seen_,.i d0,.f c0,.f b0])):=by kernel_rfl
theorem q13o {α:Type}(N:Nat)(n d0:Int)(c0 b0:NI)(K:AExit->St->Option α):∀ (m:Nat) (seen p0:Int),
  loopN (trimSt ((q13i α N).ann 195 3).head ((q13i α N).ann 195 3).grow 1) (bodyK Try.prog (q13i α N) 1 1 195 Try.f195 3) m (buildS q13k [.i n,.i seen,.i p0,.i d0,.f c0,.f b0]) (leaveLoop ((q13i α N).ann 195 3) 1 K)=q0cj none n d0 c0 b0 m seen p0 (K .ret (buildS q13l [.i d0,.f c0,.f b0])) (fun seen_=>K (.exit 0) (buildS q13m [.i n,.i seen_,.i d0,.f c0,.f b0])):=by
 intro m
 induction m with
 | zero=>intros;rfl
 | succ m ih=>
  intro seen p0
  rw [q0bc]
  refine (q13n N n seen p0 d0 c0 b0 _ K).trans ?_
  exact congrArg (fun kn=>q0ci none n d0 c0 b0 seen p0 kn (K .ret (buildS q13l [.i d0,.f c0,.f b0])) (fun seen_=>K (.exit 0) (buildS q13m [.i n,.i seen_,.i d0,.f c0,.f b0]))) (funext fun seen=>funext fun p0=>ih seen p0)
def q13p (α:Type)(N:Nat):Env α:=(q13i α N).addLoop2 195 3 (loopSum2 ((q13i α N).ann 195 3) 1 q13k (fun l K=>match l with
  | [.i n,.i seen,.i p0,.i d0,.f c0,.f b0]=>q0cj none n d0 c0 b0 N seen p0 (K .ret (buildS q13l [.i d0,.f c0,.f b0])) (fun seen_=>K (.exit 0) (buildS q13m [.i n,.i seen_,.i d0,.f c0,.f b0]))
  | _=>none) ((q13i α N).ls 195 3))
theorem q13q {α:Type}(N:Nat):EnvOk Try.prog (q13p α N):=(q13j N).addLoop2 Try.func195 (by kernel_rfl) (q0ba q0td q0te (q13j N) Try.func195 (by kernel_rfl) (d:=1) (ro:=1) fun l K r h=>by
 split at h
 ·exact (q13o N _ _ _ _ K N _ _).trans h
 ·cases h)
def q13r:SPat:=⟨[.slice ⟨⟨0,0⟩,2,0,8⟩ 8 8 1 true,.int .i64],[[.vals [.int .i64],.ints .u8 8,.ints .u8 8]]⟩
def q13s:SPat:=⟨[.bool],[[.vals [.int .i64],.ints .u8 8,.ints .u8 8]]⟩
theorem q13t {α:Type}(N:Nat)(n d0:Int)(c0 b0:NI)(K:AV->Heap->Option α):
  callK Try.prog (q13p α N) 1 195 1 (buildS q13r [.i n,.i d0,.f c0,.f b0]).t (buildS q13r [.i n,.i d0,.f c0,.f b0]).h K=q0ck none N n d0 c0 b0 (fun r__=>retK (buildS q13s [.b r__,.i d0,.f c0,.f b0]) K):=by kernel_rfl
def q13u (α:Type)(N:Nat):Env α:=(q13p α N).addFun 195 true 1 q13r (fun l K=>match l with
  | [.i n,.i d0,.f c0,.f b0]=>q0ck none N n d0 c0 b0 (fun r__=>retK (buildS q13s [.b r__,.i d0,.f c0,.f b0]) K)
  | _=>none)
theorem q13v {α:Type}(N:Nat):EnvOk Try.prog (q13u α N):=(q13q N).addFun q0td q0te (d:=1) fun l K r h=>by
 split at h
 ·exact (q13t N _ _ _ _ K).trans h
 ·cases h
def q13w (α:Type)(N:Nat):Env α:=(q13u α N).addAnn 116 4 { head:=[1,25,26],grow:=[],out:=[],ret:=[2] }
theorem q13x {α:Type}(N:Nat):EnvOk Try.prog (q13w α N):=(q13v N).addAnn
def q13y:SPat:=⟨[.undef,.ptr ⟨⟨0,0⟩,0,0,1⟩,.undef,.undef,.undef,.undef,.undef,.undef,.undef,.undef,.undef,.undef,.undef,.undef,.undef,.undef,.undef,.undef,.undef,.undef,.undef,.undef,.undef,.undef,.undef,.int .i64,.int .i64]++List.replicate 12 .undef,[[.vals [.int .i64],.ints .u8 8,.ints .u8 8]]⟩
def q13z:SPat:=⟨[.undef,.undef,.boolC false]++List.replicate 36 .undef,[[.vals [.int .i64],.ints .u8 8,.ints .u8 8]]⟩
def q140:SPat:=⟨[]++List.replicate 39 .undef,[[.vals [.int .i64],.ints .u8 8,.ints .u8 8]]⟩
theorem q141 {α:Type}(N:Nat)(q2 P1 d0:Int)(c0 b0:NI)(kn:St->Option α)(K:AExit->St->Option α):
  roundK Try.prog (q13w α N) 1 0 116 Try.f116 4 1 (buildS q13y [.i q2,.i P1,.i d0,.f c0,.f b0]) kn K=q0cl none q2 d0 c0 b0 P1 (fun P1=>kn (buildS q13y [.i q2,.i P1,.i d0,.f c0,.f b0])) (K .ret (buildS q13z [.i d0,.f c0,.f b0])) (K (.exit 0) (buildS q140 [.i d0,.f c0,.f b0])):=by kernel_rfl
theorem q142 {α:Type}(N:Nat)(q2 d0:Int)(c0 b0:NI)(K:AExit->St->Option α):∀ (m:Nat) (P1:Int),
  loopN (trimSt ((q13w α N).ann 116 4).head ((q13w α N).ann 116 4).grow 1) (bodyK Try.prog (q13w α N) 1 0 116 Try.f116 4) m (buildS q13y [.i q2,.i P1,.i d0,.f c0,.f b0]) (leaveLoop ((q13w α N).ann 116 4) 1 K)=q0cm none q2 d0 c0 b0 m P1 (K .ret (buildS q13z [.i d0,.f c0,.f b0])) (K (.exit 0) (buildS q140 [.i d0,.f c0,.f b0])):=by
 intro m
 induction m with
 | zero=>intros;rfl
 | succ m ih=>
  intro P1
  rw [q0bc]
  refine (q141 N q2 P1 d0 c0 b0 _ K).trans ?_
  exact congrArg (fun kn=>q0cl none q2 d0 c0 b0 P1 kn (K .ret (buildS q13z [.i d0,.f c0,.f b0])) (K (.exit 0) (buildS q140 [.i d0,.f c0,.f b0]))) (funext fun P1=>ih P1)
def q143 (α:Type)(N:Nat):Env α:=(q13w α N).addLoop2 116 4 (loopSum2 ((q13w α N).ann 116 4) 0 q13y (fun l K=>match l with
  | [.i q2,.i P1,.i d0,.f c0,.f b0]=>q0cm none q2 d0 c0 b0 N P1 (K .ret (buildS q13z [.i d0,.f c0,.f b0])) (K (.exit 0) (buildS q140 [.i d0,.f c0,.f b0]))
  | _=>none) ((q13w α N).ls 116 4))
theorem q144 {α:Type}(N:Nat):EnvOk Try.prog (q143 α N):=(q13x N).addLoop2 Try.func116 (by kernel_rfl) (q0ba q0td q0te (q13x N) Try.func116 (by kernel_rfl) (d:=1) (ro:=0) fun l K r h=>by
 split at h
 ·exact (q142 N _ _ _ _ K N _).trans h
 ·cases h)
def q145:SPat:=⟨[.agg [.vals [.int .i64],.ints .u8 8,.ints .u8 8]],[]⟩
def q146:SPat:=⟨[.bool],[]⟩
theorem q147 {α:Type}(N:Nat)(g0:Int)(i0 j0:NI)(K:AV->Heap->Option α):
  callK Try.prog (q143 α N) 1 116 0 (buildS q145 [.i g0,.f i0,.f j0]).t (buildS q145 [.i g0,.f i0,.f j0]).h K=q0cn none N g0 i0 j0 (fun r__=>retK (buildS q146 [.b r__]) K):=by kernel_rfl
def q148 (α:Type)(N:Nat):Env α:=(q143 α N).addFun 116 true 0 q145 (fun l K=>match l with
  | [.i g0,.f i0,.f j0]=>q0cn none N g0 i0 j0 (fun r__=>retK (buildS q146 [.b r__]) K)
  | _=>none)
theorem q149 {α:Type}(N:Nat):EnvOk Try.prog (q148 α N):=(q144 N).addFun q0td q0te (d:=1) fun l K r h=>by
 split at h
 ·exact (q147 N _ _ _ K).trans h
 ·cases h
def q14a:SPat:=⟨[.int .i64,.int .i64,.int .i64,.int .i64],[]⟩
def q14b:SPat:=⟨[.bool],[]⟩
theorem q14c {α:Type}(N:Nat)(a b c d:Int)(K:AV->Heap->Option α):
  callK Try.prog (q148 α N) 1 199 0 (buildS q14a [.i a,.i b,.i c,.i d]).t (buildS q14a [.i a,.i b,.i c,.i d]).h K=q0cz none N a b c d (fun r__=>retK (buildS q14b [.b r__]) K):=by kernel_rfl
def q14d (α:Type)(N:Nat):Env α:=(q148 α N).addFun 199 true 0 q14a (fun l K=>match l with
  | [.i a,.i b,.i c,.i d]=>q0cz none N a b c d (fun r__=>retK (buildS q14b [.b r__]) K)
  | _=>none)
theorem q14e {α:Type}(N:Nat):EnvOk Try.prog (q14d α N):=(q149 N).addFun q0td q0te (d:=1) fun l K r h=>by
 split at h
 ·exact (q14c N _ _ _ _ K).trans h
 ·cases h
def q14f:SPat:=⟨[.agg [.vals [.int .i64],.ints .u8 8,.ints .u8 8],.int .i64],[]⟩
def q14g:SPat:=⟨[.bool],[]⟩
theorem q14h {α:Type}(N:Nat)(g0:Int)(i0 j0:NI)(i:Int)(K:AV->Heap->Option α):
  callK Try.prog (q14d α N) 1 130 0 (buildS q14f [.i g0,.f i0,.f j0,.i i]).t (buildS q14f [.i g0,.f i0,.f j0,.i i]).h K=q0ep none N g0 i0 j0 i (fun r__=>retK (buildS q14g [.b r__]) K):=by kernel_rfl
def q14i (α:Type)(N:Nat):Env α:=(q14d α N).addFun 130 true 0 q14f (fun l K=>match l with
  | [.i g0,.f i0,.f j0,.i i]=>q0ep none N g0 i0 j0 i (fun r__=>retK (buildS q14g [.b r__]) K)
  | _=>none)
theorem q14j {α:Type}(N:Nat):EnvOk Try.prog (q14i α N):=(q14e N).addFun q0td q0te (d:=1) fun l K r h=>by
 split at h
 ·exact (q14h N _ _ _ _ K).trans h
 ·cases h
def q14k (α:Type)(N:Nat):Env α:=(q14i α N).addAnn 189 3 { head:=[3,4,5,9,10],grow:=[],out:=[4,5],ret:=[4] }
theorem q14l {α:Type}(N:Nat):EnvOk Try.prog (q14k α N):=(q14j N).addAnn
def q14m:SPat:=⟨[.undef,.undef,.undef,.ptr ⟨⟨1,0⟩,0,0,8⟩,.ptr ⟨⟨2,0⟩,0,0,8⟩,.ptr ⟨⟨3,0⟩,0,0,8⟩,.undef,.undef,.undef,.int .i64,.int .i64]++List.replicate 9 .undef,[[.vals [.int .i64],.ints .u8 8,.ints .u8 8],[.ints .u8 8],[.ints .i64 8],[.ints .i64 8]]⟩
def q14n:SPat:=⟨[.undef,.undef,.undef,.undef,.ptr ⟨⟨2,0⟩,0,0,8⟩,.ptr ⟨⟨3,0⟩,0,0,8⟩]++List.replicate 14 .undef,[[.vals [.int .i64],.ints .u8 8,.ints .u8 8],[.ints .u8 8],[.ints .i64 8],[.ints .i64 8]]⟩
theorem q14o {α:Type}(N:Nat)(t9 p0 d0:Int)(c0 b0 h1 h2 h3:NI)(kn:St->Option α)(K:AExit->St->Option α):
  roundK Try.prog (q14k α N) 1 0 189 Try.f189 3 4 (buildS q14m [.i t9,.i p0,.i d0,.f c0,.f b0,.f h1,.f h2,.f h3]) kn K=q0cw none t9 d0 c0 b0 h1 h2 p0 h3 (fun p0 h3=>kn (buildS q14m [.i t9,.i p0,.i d0,.f c0,.f b0,.f h1,.f h2,.f h3])) (fun h3_=>K (.exit 0) (buildS q14n [.i d0,.f c0,.f b0,.f h1,.f h2,.f h3_])):=by kernel_rfl
theorem q14p {α:Type}(N:Nat)(t9 d0:Int)(c0 b0 h1 h2:NI)(K:AExit->St->Option α):∀ (m:Nat) (p0:Int) (h3:NI),
  loopN (trimSt ((q14k α N).ann 189 3).head ((q14k α N).ann 189 3).grow 4) (bodyK Try.prog (q14k α N) 1 0 189 Try.f189 3) m (buildS q14m [.i t9,.i p0,.i d0,.f c0,.f b0,.f h1,.f h2,.f h3]) (leaveLoop ((q14k α N).ann 189 3) 4 K)=q0cx none t9 d0 c0 b0 h1 h2 m p0 h3 (fun h3_=>K (.exit 0) (buildS q14n [.i d0,.f c0,.f b0,.f h1,.f h2,.f h3_])):=by
 intro m
 induction m with
 | zero=>intros;rfl
 | succ m ih=>
  intro p0 h3
  rw [q0bc]
  refine (q14o N t9 p0 d0 c0 b0 h1 h2 h3 _ K).trans ?_
  exact congrArg (fun kn=>q0cw none t9 d0 c0 b0 h1 h2 p0 h3 kn (fun h3_=>K (.exit 0) (buildS q14n [.i d0,.f c0,.f b0,.f h1,.f h2,.f h3_]))) (funext fun p0=>funext fun h3=>ih p0 h3)
def q14q (α:Type)(N:Nat):Env α:=(q14k α N).addLoop2 189 3 (loopSum2 ((q14k α N).ann 189 3) 0 q14m (fun l K=>match l with
  | [.i t9,.i p0,.i d0,.f c0,.f b0,.f h1,.f h2,.f h3]=>q0cx none t9 d0 c0 b0 h1 h2 N p0 h3 (fun h3_=>K (.exit 0) (buildS q14n [.i d0,.f c0,.f b0,.f h1,.f h2,.f h3_]))
  | _=>none) ((q14k α N).ls 189 3))
theorem q14r {α:Type}(N:Nat):EnvOk Try.prog (q14q α N):=(q14l N).addLoop2 Try.func189 (by kernel_rfl) (q0ba q0td q0te (q14l N) Try.func189 (by kernel_rfl) (d:=1) (ro:=0) fun l K r h=>by
 split at h
 ·exact (q14p N _ _ _ _ _ _ K N _ _).trans h
 ·cases h)
def q14s:SPat:=⟨[.agg [.vals [.int .i64],.ints .u8 8,.ints .u8 8],.agg [.ints .u8 8]],[]⟩
def q14t:SPat:=⟨[.agg [.ints .i64 8]],[]⟩
theorem q14u {α:Type}(N:Nat)(g0:Int)(i0 j0 rows:NI)(K:AV->Heap->Option α):
  callK Try.prog (q14q α N) 1 189 0 (buildS q14s [.i g0,.f i0,.f j0,.f rows]).t (buildS q14s [.i g0,.f i0,.f j0,.f rows]).h K=q0cy none N g0 i0 j0 rows (fun r__=>retK (buildS q14t [.f r__]) K):=by kernel_rfl
def q14v (α:Type)(N:Nat):Env α:=(q14q α N).addFun 189 true 0 q14s (fun l K=>match l with
  | [.i g0,.f i0,.f j0,.f rows]=>q0cy none N g0 i0 j0 rows (fun r__=>retK (buildS q14t [.f r__]) K)
  | _=>none)
theorem q14w {α:Type}(N:Nat):EnvOk Try.prog (q14v α N):=(q14r N).addFun q0td q0te (d:=1) fun l K r h=>by
 split at h
 ·exact (q14u N _ _ _ _ K).trans h
 ·cases h
def q14x:SPat:=⟨[.agg [.vals [.int .i64],.ints .u8 8,.ints .u8 8],.int .i64],[]⟩
def q14y:SPat:=⟨[.bool],[]⟩
theorem q14z {α:Type}(N:Nat)(g0:Int)(i0 j0:NI)(r_:Int)(K:AV->Heap->Option α):
  callK Try.prog (q14v α N) 1 134 0 (buildS q14x [.i g0,.f i0,.f j0,.i r_]).t (buildS q14x [.i g0,.f i0,.f j0,.i r_]).h K=q0d0 none N g0 i0 j0 r_ (fun r__=>retK (buildS q14y [.b r__]) K):=by kernel_rfl
def q150 (α:Type)(N:Nat):Env α:=(q14v α N).addFun 134 true 0 q14x (fun l K=>match l with
  | [.i g0,.f i0,.f j0,.i r_]=>q0d0 none N g0 i0 j0 r_ (fun r__=>retK (buildS q14y [.b r__]) K)
  | _=>none)
theorem q151 {α:Type}(N:Nat):EnvOk Try.prog (q150 α N):=(q14w N).addFun q0td q0te (d:=1) fun l K r h=>by
 split at h
 ·exact (q14z N _ _ _ _ K).trans h
 ·cases h
def q152 (α:Type)(N:Nat):Env α:=(q150 α N).addAnn 129 4 { head:=[2,10,11,12],grow:=[],out:=[],ret:=[4] }
theorem q153 {α:Type}(N:Nat):EnvOk Try.prog (q152 α N):=(q151 N).addAnn
def q154:SPat:=⟨[.undef,.undef,.ptr ⟨⟨1,0⟩,0,0,1⟩,.undef,.undef,.undef,.undef,.undef,.undef,.undef,.slice ⟨⟨0,0⟩,0,0,2⟩ 2 2 1 true,.intC .i64 2,.int .i64]++List.replicate 10 .undef,[[.vec .i64],[.vals [.int .i64],.ints .u8 8,.ints .u8 8]]⟩
def q155:SPat:=⟨[.undef,.undef,.undef,.undef,.intC .i64 2]++List.replicate 18 .undef,[[.vec .i64],[.vals [.int .i64],.ints .u8 8,.ints .u8 8]]⟩
def q156:SPat:=⟨[]++List.replicate 23 .undef,[[.vec .i64],[.vals [.int .i64],.ints .u8 8,.ints .u8 8]]⟩
theorem q157 {α:Type}(N:Nat)(b1:Int)(h0:List Int)(m0:Int)(f0 e0:NI)(kn:St->Option α)(K:AExit->St->Option α):
  roundK Try.prog (q152 α N) 1 1 129 Try.f129 4 2 (buildS q154 [.i b1,.l h0,.i m0,.f f0,.f e0]) kn K=q0eq none N h0 m0 f0 e0 b1 (fun b1=>kn (buildS q154 [.i b1,.l h0,.i m0,.f f0,.f e0])) (K .ret (buildS q155 [.l h0,.i m0,.f f0,.f e0])) (K (.exit 0) (buildS q156 [.l h0,.i m0,.f f0,.f e0])):=by kernel_rfl
theorem q158 {α:Type}(N:Nat)(h0:List Int)(m0:Int)(f0 e0:NI)(K:AExit->St->Option α):∀ (m:Nat) (b1:Int),
  loopN (trimSt ((q152 α N).ann 129 4).head ((q152 α N).ann 129 4).grow 2) (bodyK Try.prog (q152 α N) 1 1 129 Try.f129 4) m (buildS q154 [.i b1,.l h0,.i m0,.f f0,.f e0]) (leaveLoop ((q152 α N).ann 129 4) 2 K)=q0er none N h0 m0 f0 e0 m b1 (K .ret (buildS q155 [.l h0,.i m0,.f f0,.f e0])) (K (.exit 0) (buildS q156 [.l h0,.i m0,.f f0,.f e0])):=by
 intro m
 induction m with
 | zero=>intros;rfl
 | succ m ih=>
  intro b1
  rw [q0bc]
  refine (q157 N b1 h0 m0 f0 e0 _ K).trans ?_
  exact congrArg (fun kn=>q0eq none N h0 m0 f0 e0 b1 kn (K .ret (buildS q155 [.l h0,.i m0,.f f0,.f e0])) (K (.exit 0) (buildS q156 [.l h0,.i m0,.f f0,.f e0]))) (funext fun b1=>ih b1)
def q159 (α:Type)(N:Nat):Env α:=(q152 α N).addLoop2 129 4 (loopSum2 ((q152 α N).ann 129 4) 1 q154 (fun l K=>match l with
  | [.i b1,.l h0,.i m0,.f f0,.f e0]=>q0er none N h0 m0 f0 e0 N b1 (K .ret (buildS q155 [.l h0,.i m0,.f f0,.f e0])) (K (.exit 0) (buildS q156 [.l h0,.i m0,.f f0,.f e0]))
  | _=>none) ((q152 α N).ls 129 4))
theorem q15a {α:Type}(N:Nat):EnvOk Try.prog (q159 α N):=(q153 N).addLoop2 Try.func129 (by kernel_rfl) (q0ba q0td q0te (q153 N) Try.func129 (by kernel_rfl) (d:=1) (ro:=1) fun l K r h=>by
 split at h
 ·exact (q158 N _ _ _ _ K N _).trans h
 ·cases h)
def q15b:SPat:=⟨[.agg [.vals [.int .i64],.ints .u8 8,.ints .u8 8],.slice ⟨⟨0,0⟩,0,0,2⟩ 2 2 1 true],[[.vec .i64]]⟩
def q15c:SPat:=⟨[.int .i64],[[.vec .i64]]⟩
theorem q15d {α:Type}(N:Nat)(g0:Int)(i0 j0:NI)(h0:List Int)(K:AV->Heap->Option α):
  callK Try.prog (q159 α N) 1 129 1 (buildS q15b [.i g0,.f i0,.f j0,.l h0]).t (buildS q15b [.i g0,.f i0,.f j0,.l h0]).h K=q0es none N g0 i0 j0 h0 (fun r__=>retK (buildS q15c [.i r__,.l h0]) K):=by kernel_rfl
def q15e (α:Type)(N:Nat):Env α:=(q159 α N).addFun 129 true 1 q15b (fun l K=>match l with
  | [.i g0,.f i0,.f j0,.l h0]=>q0es none N g0 i0 j0 h0 (fun r__=>retK (buildS q15c [.i r__,.l h0]) K)
  | _=>none)
theorem q15f {α:Type}(N:Nat):EnvOk Try.prog (q15e α N):=(q15a N).addFun q0td q0te (d:=1) fun l K r h=>by
 split at h
 ·exact (q15d N _ _ _ _ K).trans h
 ·cases h
def q15g (α:Type)(N:Nat):Env α:=(q15e α N).addAnn 180 2 { head:=[1,2,3,6,7,14],grow:=[],out:=[6,7],ret:=[6,7,8] }
theorem q15h {α:Type}(N:Nat):EnvOk Try.prog (q15g α N):=(q15f N).addAnn
def q15i (α:Type)(N:Nat):Env α:=(q15g α N).addAnn 180 7 { head:=[1,2,3,6,7,10,11,14,31,32],grow:=[],out:=[1,2,3,6,7,10,11,14],ret:=[6,7,8] }
theorem q15j {α:Type}(N:Nat):EnvOk Try.prog (q15i α N):=(q15h N).addAnn
def q15k:SPat:=⟨[.undef,.int .i64,.int .i64,.ptr ⟨⟨0,0⟩,0,0,1⟩,.undef,.undef,.ptr ⟨⟨1,0⟩,0,0,1⟩,.ptr ⟨⟨2,0⟩,0,0,4⟩,.undef,.undef,.ptr ⟨⟨3,0⟩,0,0,4⟩,.ptr ⟨⟨4,0⟩,0,0,1⟩,.undef,.undef,.int .i64,.undef,.undef,.undef,.undef,.undef,.undef,.undef,.undef,.undef,.undef,.undef,.undef,.undef,.undef,.undef,.undef,.int .i64,.int .i64]++List.replicate 84 .undef,[[.vals [.int .i64],.ints .u8 8,.ints .u8 8],[.vals [.int .i64],.ints .u8 8,.ints .u8 8],[.ints .i64 4],[.ints .i64 4],[.vals [.int .i64],.ints .u8 8,.ints .u8 8]]⟩
def q15l:SPat:=⟨[.undef,.int .i64,.int .i64,.ptr ⟨⟨0,0⟩,0,0,1⟩,.undef,.undef,.ptr ⟨⟨1,0⟩,0,0,1⟩,.ptr ⟨⟨2,0⟩,0,0,4⟩,.undef,.undef,.ptr ⟨⟨3,0⟩,0,0,4⟩,.ptr ⟨⟨4,0⟩,0,0,1⟩,.undef,.undef,.int .i64]++List.replicate 102 .undef,[[.vals [.int .i64],.ints .u8 8,.ints .u8 8],[.vals [.int .i64],.ints .u8 8,.ints .u8 8],[.ints .i64 4],[.ints .i64 4],[.vals [.int .i64],.ints .u8 8,.ints .u8 8]]⟩
theorem q15m {α:Type}(N:Nat)(t1 t2 B0 C3 A0 d0:Int)(c0 b0:NI)(m0:Int)(f0 e0 h2 h3:NI)(o3:Int)(G2 H2:NI)(kn:St->Option α)(K:AExit->St->Option α):
  roundK Try.prog (q15i α N) 1 0 180 Try.f180 7 5 (buildS q15k [.i t1,.i t2,.i B0,.i C3,.i A0,.i d0,.f c0,.f b0,.i m0,.f f0,.f e0,.f h2,.f h3,.i o3,.f G2,.f H2]) kn K=q0et none t1 t2 B0 C3 d0 c0 b0 m0 f0 e0 h2 h3 o3 A0 G2 H2 (fun A0 G2 H2=>kn (buildS q15k [.i t1,.i t2,.i B0,.i C3,.i A0,.i d0,.f c0,.f b0,.i m0,.f f0,.f e0,.f h2,.f h3,.i o3,.f G2,.f H2])) (fun i4 j4=>K (.exit 2) (buildS q15l [.i t1,.i t2,.i B0,.i d0,.f c0,.f b0,.i m0,.f f0,.f e0,.f h2,.f h3,.i o3,.f i4,.f j4])):=by kernel_rfl
theorem q15n {α:Type}(N:Nat)(t1 t2 B0 C3 d0:Int)(c0 b0:NI)(m0:Int)(f0 e0 h2 h3:NI)(o3:Int)(K:AExit->St->Option α):∀ (m:Nat) (A0:Int) (G2 H2:NI),
  loopN (trimSt ((q15i α N).ann 180 7).head ((q15i α N).ann 180 7).grow 5) (bodyK Try.prog (q15i α N) 1 0 180 Try.f180 7) m (buildS q15k [.i t1,.i t2,.i B0,.i C3,.i A0,.i d0,.f c0,.f b0,.i m0,.f f0,.f e0,.f h2,.f h3,.i o3,.f G2,.f H2]) (leaveLoop ((q15i α N).ann 180 7) 5 K)=q0eu none t1 t2 B0 C3 d0 c0 b0 m0 f0 e0 h2 h3 o3 m A0 G2 H2 (fun i4 j4=>K (.exit 2) (buildS q15l [.i t1,.i t2,.i B0,.i d0,.f c0,.f b0,.i m0,.f f0,.f e0,.f h2,.f h3,.i o3,.f i4,.f j4])):=by
 intro m
 induction m with
 | zero=>intros;rfl
 | succ m ih=>
  intro A0 G2 H2
  rw [q0bc]
  refine (q15m N t1 t2 B0 C3 A0 d0 c0 b0 m0 f0 e0 h2 h3 o3 G2 H2 _ K).trans ?_
  exact congrArg (fun kn=>q0et none t1 t2 B0 C3 d0 c0 b0 m0 f0 e0 h2 h3 o3 A0 G2 H2 kn (fun i4 j4=>K (.exit 2) (buildS q15l [.i t1,.i t2,.i B0,.i d0,.f c0,.f b0,.i m0,.f f0,.f e0,.f h2,.f h3,.i o3,.f i4,.f j4]))) (funext fun A0=>funext fun G2=>funext fun H2=>ih A0 G2 H2)
def q15o (α:Type)(N:Nat):Env α:=(q15i α N).addLoop2 180 7 (loopSum2 ((q15i α N).ann 180 7) 0 q15k (fun l K=>match l with
  | [.i t1,.i t2,.i B0,.i C3,.i A0,.i d0,.f c0,.f b0,.i m0,.f f0,.f e0,.f h2,.f h3,.i o3,.f G2,.f H2]=>q0eu none t1 t2 B0 C3 d0 c0 b0 m0 f0 e0 h2 h3 o3 N A0 G2 H2 (fun i4 j4=>K (.exit 2) (buildS q15l [.i t1,.i t2,.i B0,.i d0,.f c0,.f b0,.i m0,.f f0,.f e0,.f h2,.f h3,.i o3,.f i4,.f j4]))
  | _=>none) ((q15i α N).ls 180 7))
theorem q15p {α:Type}(N:Nat):EnvOk Try.prog (q15o α N):=(q15j N).addLoop2 Try.func180 (by kernel_rfl) (q0ba q0td q0te (q15j N) Try.func180 (by kernel_rfl) (d:=1) (ro:=0) fun l K r h=>by
 split at h
 ·exact (q15n N _ _ _ _ _ _ _ _ _ _ _ _ _ K N _ _ _).trans h
 ·cases h)
def q15q:SPat:=⟨[.ptr ⟨⟨0,0⟩,0,0,1⟩,.int .i64],[[.vals [.int .i64],.ints .u8 8,.ints .u8 8]]⟩
def q15r:SPat:=⟨[.ptr ⟨⟨0,0⟩,1,0,8⟩],[[.vals [.int .i64],.ints .u8 8,.ints .u8 8]]⟩
def q15s:SPat:=⟨[.ptr ⟨⟨0,0⟩,2,0,8⟩],[[.vals [.int .i64],.ints .u8 8,.ints .u8 8]]⟩
theorem q15t {α:Type}(N:Nat)(mark d0:Int)(c0 b0:NI)(K:AV->Heap->Option α):
  callK Try.prog (q15o α N) 1 179 1 (buildS q15q [.i mark,.i d0,.f c0,.f b0]).t (buildS q15q [.i mark,.i d0,.f c0,.f b0]).h K=q0ev none N mark d0 c0 b0 (retK (buildS q15r [.i d0,.f c0,.f b0]) K) (retK (buildS q15s [.i d0,.f c0,.f b0]) K):=by kernel_rfl
def q15u (α:Type)(N:Nat):Env α:=(q15o α N).addFun 179 true 1 q15q (fun l K=>match l with
  | [.i mark,.i d0,.f c0,.f b0]=>q0ev none N mark d0 c0 b0 (retK (buildS q15r [.i d0,.f c0,.f b0]) K) (retK (buildS q15s [.i d0,.f c0,.f b0]) K)
  | _=>none)
theorem q15v {α:Type}(N:Nat):EnvOk Try.prog (q15u α N):=(q15p N).addFun q0td q0te (d:=1) fun l K r h=>by
 split at h
 ·exact (q15t N _ _ _ _ K).trans h
 ·cases h
def q15w (α:Type)(N:Nat):Env α:=(q15u α N).addAnn 212 6 { head:=[3,4,5,6,7,8,9,10,40,41],grow:=[],out:=[3,4,7,8,9,10],ret:=[4] }
theorem q15x {α:Type}(N:Nat):EnvOk Try.prog (q15w α N):=(q15v N).addAnn
end Go.AM
