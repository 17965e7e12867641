/- A part of a proof about the given program: an abstract machine, what the given functions come to, and plain laws. -/
import Derived.Test.YtoginabccpjeoaaSLawMovesA
set_option linter.unusedVariables false
set_option linter.unusedSimpArgs false
set_option maxRecDepth 100000
set_option maxHeartbeats 4000000
namespace Go.AM
open Go.Proofs
def q15y:SPat:=⟨[.undef,.undef,.undef,.ptr ⟨⟨1,0⟩,0,0,4⟩,.ptr ⟨⟨2,0⟩,0,0,1⟩,.ptr ⟨⟨3,0⟩,0,0,8⟩,.ptr ⟨⟨4,0⟩,0,0,8⟩,.int .u8,.ptr ⟨⟨5,0⟩,0,0,1⟩,.ptr ⟨⟨5,0⟩,1,0,8⟩,.ptr ⟨⟨5,0⟩,1,0,8⟩,.undef,.undef,.undef,.undef,.undef,.undef,.undef,.undef,.undef,.undef,.undef,.undef,.undef,.undef,.undef,.undef,.undef,.undef,.undef,.undef,.undef,.undef,.undef,.undef,.undef,.undef,.undef,.undef,.undef,.int .i64,.int .i64]++List.replicate 121 .undef,[[.vals [.int .i64],.ints .u8 8,.ints .u8 8],[.ints .i64 4],[.vals [.int .i64],.ints .u8 8,.ints .u8 8],[.ints .u8 8],[.ints .u8 8],[.vals [.int .i64],.ints .u8 8,.ints .u8 8]]⟩
def q15z:SPat:=⟨[.undef,.undef,.undef,.ptr ⟨⟨1,0⟩,0,0,4⟩,.ptr ⟨⟨2,0⟩,0,0,1⟩,.undef,.undef,.int .u8,.ptr ⟨⟨5,0⟩,0,0,1⟩,.ptr ⟨⟨5,0⟩,1,0,8⟩,.ptr ⟨⟨5,0⟩,1,0,8⟩]++List.replicate 152 .undef,[[.vals [.int .i64],.ints .u8 8,.ints .u8 8],[.ints .i64 4],[.vals [.int .i64],.ints .u8 8,.ints .u8 8],[.ints .u8 8],[.ints .u8 8],[.vals [.int .i64],.ints .u8 8,.ints .u8 8]]⟩
theorem q160 {α:Type}(N:Nat)(t7 i1 a0 d0:Int)(c0 b0 h1:NI)(t0:Int)(q0 r0 h3 h4:NI)(w0:Int)(o0 n0:NI)(kn:St->Option α)(K:AExit->St->Option α):
  roundK Try.prog (q15w α N) 1 0 212 Try.f212 6 6 (buildS q15y [.i t7,.i i1,.i a0,.i d0,.f c0,.f b0,.f h1,.i t0,.f q0,.f r0,.f h3,.f h4,.i w0,.f o0,.f n0]) kn K=q0ew none t7 i1 d0 c0 b0 h1 t0 q0 r0 h3 h4 w0 n0 a0 o0 (fun a0 o0=>kn (buildS q15y [.i t7,.i i1,.i a0,.i d0,.f c0,.f b0,.f h1,.i t0,.f q0,.f r0,.f h3,.f h4,.i w0,.f o0,.f n0])) (fun L2=>K (.exit 0) (buildS q15z [.i t7,.i d0,.f c0,.f b0,.f h1,.i t0,.f q0,.f r0,.f h3,.f h4,.i w0,.f L2,.f n0])):=by kernel_rfl
theorem q161 {α:Type}(N:Nat)(t7 i1 d0:Int)(c0 b0 h1:NI)(t0:Int)(q0 r0 h3 h4:NI)(w0:Int)(n0:NI)(K:AExit->St->Option α):∀ (m:Nat) (a0:Int) (o0:NI),
  loopN (trimSt ((q15w α N).ann 212 6).head ((q15w α N).ann 212 6).grow 6) (bodyK Try.prog (q15w α N) 1 0 212 Try.f212 6) m (buildS q15y [.i t7,.i i1,.i a0,.i d0,.f c0,.f b0,.f h1,.i t0,.f q0,.f r0,.f h3,.f h4,.i w0,.f o0,.f n0]) (leaveLoop ((q15w α N).ann 212 6) 6 K)=q0ex none t7 i1 d0 c0 b0 h1 t0 q0 r0 h3 h4 w0 n0 m a0 o0 (fun L2=>K (.exit 0) (buildS q15z [.i t7,.i d0,.f c0,.f b0,.f h1,.i t0,.f q0,.f r0,.f h3,.f h4,.i w0,.f L2,.f n0])):=by
 intro m
 induction m with
 | zero=>intros;rfl
 | succ m ih=>
  intro a0 o0
  rw [q0bc]
  refine (q160 N t7 i1 a0 d0 c0 b0 h1 t0 q0 r0 h3 h4 w0 o0 n0 _ K).trans ?_
  exact congrArg (fun kn=>q0ew none t7 i1 d0 c0 b0 h1 t0 q0 r0 h3 h4 w0 n0 a0 o0 kn (fun L2=>K (.exit 0) (buildS q15z [.i t7,.i d0,.f c0,.f b0,.f h1,.i t0,.f q0,.f r0,.f h3,.f h4,.i w0,.f L2,.f n0]))) (funext fun a0=>funext fun o0=>ih a0 o0)
def q162 (α:Type)(N:Nat):Env α:=(q15w α N).addLoop2 212 6 (loopSum2 ((q15w α N).ann 212 6) 0 q15y (fun l K=>match l with
  | [.i t7,.i i1,.i a0,.i d0,.f c0,.f b0,.f h1,.i t0,.f q0,.f r0,.f h3,.f h4,.i w0,.f o0,.f n0]=>q0ex none t7 i1 d0 c0 b0 h1 t0 q0 r0 h3 h4 w0 n0 N a0 o0 (fun L2=>K (.exit 0) (buildS q15z [.i t7,.i d0,.f c0,.f b0,.f h1,.i t0,.f q0,.f r0,.f h3,.f h4,.i w0,.f L2,.f n0]))
  | _=>none) ((q15w α N).ls 212 6))
theorem q163 {α:Type}(N:Nat):EnvOk Try.prog (q162 α N):=(q15x N).addLoop2 Try.func212 (by kernel_rfl) (q0ba q0td q0te (q15x N) Try.func212 (by kernel_rfl) (d:=1) (ro:=0) fun l K r h=>by
 split at h
 ·exact (q161 N _ _ _ _ _ _ _ _ _ _ _ _ _ K N _ _).trans h
 ·cases h)
def q164:SPat:=⟨[.undef,.undef,.undef,.ptr ⟨⟨1,0⟩,0,0,4⟩,.ptr ⟨⟨2,0⟩,0,0,1⟩,.ptr ⟨⟨3,0⟩,0,0,8⟩,.ptr ⟨⟨4,0⟩,0,0,8⟩,.int .u8,.ptr ⟨⟨5,0⟩,0,0,1⟩,.ptr ⟨⟨5,0⟩,1,0,8⟩,.ptr ⟨⟨5,0⟩,2,0,8⟩,.undef,.undef,.undef,.undef,.undef,.undef,.undef,.undef,.undef,.undef,.undef,.undef,.undef,.undef,.undef,.undef,.undef,.undef,.undef,.undef,.undef,.undef,.undef,.undef,.undef,.undef,.undef,.undef,.undef,.int .i64,.int .i64]++List.replicate 121 .undef,[[.vals [.int .i64],.ints .u8 8,.ints .u8 8],[.ints .i64 4],[.vals [.int .i64],.ints .u8 8,.ints .u8 8],[.ints .u8 8],[.ints .u8 8],[.vals [.int .i64],.ints .u8 8,.ints .u8 8]]⟩
def q165:SPat:=⟨[.undef,.undef,.undef,.ptr ⟨⟨1,0⟩,0,0,4⟩,.ptr ⟨⟨2,0⟩,0,0,1⟩,.undef,.undef,.int .u8,.ptr ⟨⟨5,0⟩,0,0,1⟩,.ptr ⟨⟨5,0⟩,1,0,8⟩,.ptr ⟨⟨5,0⟩,2,0,8⟩]++List.replicate 152 .undef,[[.vals [.int .i64],.ints .u8 8,.ints .u8 8],[.ints .i64 4],[.vals [.int .i64],.ints .u8 8,.ints .u8 8],[.ints .u8 8],[.ints .u8 8],[.vals [.int .i64],.ints .u8 8,.ints .u8 8]]⟩
theorem q166 {α:Type}(N:Nat)(t7 i1 a0 d0:Int)(c0 b0 h1:NI)(t0:Int)(q0 r0 h3 h4:NI)(w0:Int)(o0 n0:NI)(kn:St->Option α)(K:AExit->St->Option α):
  roundK Try.prog (q162 α N) 1 0 212 Try.f212 6 6 (buildS q164 [.i t7,.i i1,.i a0,.i d0,.f c0,.f b0,.f h1,.i t0,.f q0,.f r0,.f h3,.f h4,.i w0,.f o0,.f n0]) kn K=q0ey none t7 i1 d0 c0 b0 h1 t0 q0 r0 h3 h4 w0 a0 o0 n0 (fun a0 o0 n0=>kn (buildS q164 [.i t7,.i i1,.i a0,.i d0,.f c0,.f b0,.f h1,.i t0,.f q0,.f r0,.f h3,.f h4,.i w0,.f o0,.f n0])) (fun L2 r2=>K (.exit 0) (buildS q165 [.i t7,.i d0,.f c0,.f b0,.f h1,.i t0,.f q0,.f r0,.f h3,.f h4,.i w0,.f L2,.f r2])):=by kernel_rfl
theorem q167 {α:Type}(N:Nat)(t7 i1 d0:Int)(c0 b0 h1:NI)(t0:Int)(q0 r0 h3 h4:NI)(w0:Int)(K:AExit->St->Option α):∀ (m:Nat) (a0:Int) (o0 n0:NI),
  loopN (trimSt ((q162 α N).ann 212 6).head ((q162 α N).ann 212 6).grow 6) (bodyK Try.prog (q162 α N) 1 0 212 Try.f212 6) m (buildS q164 [.i t7,.i i1,.i a0,.i d0,.f c0,.f b0,.f h1,.i t0,.f q0,.f r0,.f h3,.f h4,.i w0,.f o0,.f n0]) (leaveLoop ((q162 α N).ann 212 6) 6 K)=q0ez none t7 i1 d0 c0 b0 h1 t0 q0 r0 h3 h4 w0 m a0 o0 n0 (fun L2 r2=>K (.exit 0) (buildS q165 [.i t7,.i d0,.f c0,.f b0,.f h1,.i t0,.f q0,.f r0,.f h3,.f h4,.i w0,.f L2,.f r2])):=by
 intro m
 induction m with
 | zero=>intros;rfl
 | succ m ih=>
  intro a0 o0 n0
  rw [q0bc]
  refine (q166 N t7 i1 a0 d0 c0 b0 h1 t0 q0 r0 h3 h4 w0 o0 n0 _ K).trans ?_
  exact congrArg (fun kn=>q0ey none t7 i1 d0 c0 b0 h1 t0 q0 r0 h3 h4 w0 a0 o0 n0 kn (fun L2 r2=>K (.exit 0) (buildS q165 [.i t7,.i d0,.f c0,.f b0,.f h1,.i t0,.f q0,.f r0,.f h3,.f h4,.i w0,.f L2,.f r2]))) (funext fun a0=>funext fun o0=>funext fun n0=>ih a0 o0 n0)
def q168 (α:Type)(N:Nat):Env α:=(q162 α N).addLoop2 212 6 (loopSum2 ((q162 α N).ann 212 6) 0 q164 (fun l K=>match l with
  | [.i t7,.i i1,.i a0,.i d0,.f c0,.f b0,.f h1,.i t0,.f q0,.f r0,.f h3,.f h4,.i w0,.f o0,.f n0]=>q0ez none t7 i1 d0 c0 b0 h1 t0 q0 r0 h3 h4 w0 N a0 o0 n0 (fun L2 r2=>K (.exit 0) (buildS q165 [.i t7,.i d0,.f c0,.f b0,.f h1,.i t0,.f q0,.f r0,.f h3,.f h4,.i w0,.f L2,.f r2]))
  | _=>none) ((q162 α N).ls 212 6))
theorem q169 {α:Type}(N:Nat):EnvOk Try.prog (q168 α N):=(q163 N).addLoop2 Try.func212 (by kernel_rfl) (q0ba q0td q0te (q163 N) Try.func212 (by kernel_rfl) (d:=1) (ro:=0) fun l K r h=>by
 split at h
 ·exact (q167 N _ _ _ _ _ _ _ _ _ _ _ _ K N _ _ _).trans h
 ·cases h)
def q16a:SPat:=⟨[.undef,.undef,.undef,.ptr ⟨⟨1,0⟩,0,0,4⟩,.ptr ⟨⟨2,0⟩,0,0,1⟩,.ptr ⟨⟨3,0⟩,0,0,8⟩,.ptr ⟨⟨4,0⟩,0,0,8⟩,.int .u8,.ptr ⟨⟨5,0⟩,0,0,1⟩,.ptr ⟨⟨5,0⟩,2,0,8⟩,.ptr ⟨⟨5,0⟩,1,0,8⟩,.undef,.undef,.undef,.undef,.undef,.undef,.undef,.undef,.undef,.undef,.undef,.undef,.undef,.undef,.undef,.undef,.undef,.undef,.undef,.undef,.undef,.undef,.undef,.undef,.undef,.undef,.undef,.undef,.undef,.int .i64,.int .i64]++List.replicate 121 .undef,[[.vals [.int .i64],.ints .u8 8,.ints .u8 8],[.ints .i64 4],[.vals [.int .i64],.ints .u8 8,.ints .u8 8],[.ints .u8 8],[.ints .u8 8],[.vals [.int .i64],.ints .u8 8,.ints .u8 8]]⟩
def q16b:SPat:=⟨[.undef,.undef,.undef,.ptr ⟨⟨1,0⟩,0,0,4⟩,.ptr ⟨⟨2,0⟩,0,0,1⟩,.undef,.undef,.int .u8,.ptr ⟨⟨5,0⟩,0,0,1⟩,.ptr ⟨⟨5,0⟩,2,0,8⟩,.ptr ⟨⟨5,0⟩,1,0,8⟩]++List.replicate 152 .undef,[[.vals [.int .i64],.ints .u8 8,.ints .u8 8],[.ints .i64 4],[.vals [.int .i64],.ints .u8 8,.ints .u8 8],[.ints .u8 8],[.ints .u8 8],[.vals [.int .i64],.ints .u8 8,.ints .u8 8]]⟩
theorem q16c {α:Type}(N:Nat)(t7 i1 a0 d0:Int)(c0 b0 h1:NI)(t0:Int)(q0 r0 h3 h4:NI)(w0:Int)(o0 n0:NI)(kn:St->Option α)(K:AExit->St->Option α):
  roundK Try.prog (q168 α N) 1 0 212 Try.f212 6 6 (buildS q16a [.i t7,.i i1,.i a0,.i d0,.f c0,.f b0,.f h1,.i t0,.f q0,.f r0,.f h3,.f h4,.i w0,.f o0,.f n0]) kn K=q0f0 none t7 i1 d0 c0 b0 h1 t0 q0 r0 h3 h4 w0 a0 o0 n0 (fun a0 o0 n0=>kn (buildS q16a [.i t7,.i i1,.i a0,.i d0,.f c0,.f b0,.f h1,.i t0,.f q0,.f r0,.f h3,.f h4,.i w0,.f o0,.f n0])) (fun L2 r2=>K (.exit 0) (buildS q16b [.i t7,.i d0,.f c0,.f b0,.f h1,.i t0,.f q0,.f r0,.f h3,.f h4,.i w0,.f L2,.f r2])):=by kernel_rfl
theorem q16d {α:Type}(N:Nat)(t7 i1 d0:Int)(c0 b0 h1:NI)(t0:Int)(q0 r0 h3 h4:NI)(w0:Int)(K:AExit->St->Option α):∀ (m:Nat) (a0:Int) (o0 n0:NI),
  loopN (trimSt ((q168 α N).ann 212 6).head ((q168 α N).ann 212 6).grow 6) (bodyK Try.prog (q168 α N) 1 0 212 Try.f212 6) m (buildS q16a [.i t7,.i i1,.i a0,.i d0,.f c0,.f b0,.f h1,.i t0,.f q0,.f r0,.f h3,.f h4,.i w0,.f o0,.f n0]) (leaveLoop ((q168 α N).ann 212 6) 6 K)=q0f1 none t7 i1 d0 c0 b0 h1 t0 q0 r0 h3 h4 w0 m a0 o0 n0 (fun L2 r2=>K (.exit 0) (buildS q16b [.i t7,.i d0,.f c0,.f b0,.f h1,.i t0,.f q0,.f r0,.f h3,.f h4,.i w0,.f L2,.f r2])):=by
 intro m
 induction m with
 | zero=>intros;rfl
 | succ m ih=>
  intro a0 o0 n0
  rw [q0bc]
  refine (q16c N t7 i1 a0 d0 c0 b0 h1 t0 q0 r0 h3 h4 w0 o0 n0 _ K).trans ?_
  exact congrArg (fun kn=>q0f0 none t7 i1 d0 c0 b0 h1 t0 q0 r0 h3 h4 w0 a0 o0 n0 kn (fun L2 r2=>K (.exit 0) (buildS q16b [.i t7,.i d0,.f c0,.f b0,.f h1,.i t0,.f q0,.f r0,.f h3,.f h4,.i w0,.f L2,.f r2]))) (funext fun a0=>funext fun o0=>funext fun n0=>ih a0 o0 n0)
def q16e (α:Type)(N:Nat):Env α:=(q168 α N).addLoop2 212 6 (loopSum2 ((q168 α N).ann 212 6) 0 q16a (fun l K=>match l with
  | [.i t7,.i i1,.i a0,.i d0,.f c0,.f b0,.f h1,.i t0,.f q0,.f r0,.f h3,.f h4,.i w0,.f o0,.f n0]=>q0f1 none t7 i1 d0 c0 b0 h1 t0 q0 r0 h3 h4 w0 N a0 o0 n0 (fun L2 r2=>K (.exit 0) (buildS q16b [.i t7,.i d0,.f c0,.f b0,.f h1,.i t0,.f q0,.f r0,.f h3,.f h4,.i w0,.f L2,.f r2]))
  | _=>none) ((q168 α N).ls 212 6))
theorem q16f {α:Type}(N:Nat):EnvOk Try.prog (q16e α N):=(q169 N).addLoop2 Try.func212 (by kernel_rfl) (q0ba q0td q0te (q169 N) Try.func212 (by kernel_rfl) (d:=1) (ro:=0) fun l K r h=>by
 split at h
 ·exact (q16d N _ _ _ _ _ _ _ _ _ _ _ _ K N _ _ _).trans h
 ·cases h)
def q16g:SPat:=⟨[.undef,.undef,.undef,.ptr ⟨⟨1,0⟩,0,0,4⟩,.ptr ⟨⟨2,0⟩,0,0,1⟩,.ptr ⟨⟨3,0⟩,0,0,8⟩,.ptr ⟨⟨4,0⟩,0,0,8⟩,.int .u8,.ptr ⟨⟨5,0⟩,0,0,1⟩,.ptr ⟨⟨5,0⟩,2,0,8⟩,.ptr ⟨⟨5,0⟩,2,0,8⟩,.undef,.undef,.undef,.undef,.undef,.undef,.undef,.undef,.undef,.undef,.undef,.undef,.undef,.undef,.undef,.undef,.undef,.undef,.undef,.undef,.undef,.undef,.undef,.undef,.undef,.undef,.undef,.undef,.undef,.int .i64,.int .i64]++List.replicate 121 .undef,[[.vals [.int .i64],.ints .u8 8,.ints .u8 8],[.ints .i64 4],[.vals [.int .i64],.ints .u8 8,.ints .u8 8],[.ints .u8 8],[.ints .u8 8],[.vals [.int .i64],.ints .u8 8,.ints .u8 8]]⟩
def q16h:SPat:=⟨[.undef,.undef,.undef,.ptr ⟨⟨1,0⟩,0,0,4⟩,.ptr ⟨⟨2,0⟩,0,0,1⟩,.undef,.undef,.int .u8,.ptr ⟨⟨5,0⟩,0,0,1⟩,.ptr ⟨⟨5,0⟩,2,0,8⟩,.ptr ⟨⟨5,0⟩,2,0,8⟩]++List.replicate 152 .undef,[[.vals [.int .i64],.ints .u8 8,.ints .u8 8],[.ints .i64 4],[.vals [.int .i64],.ints .u8 8,.ints .u8 8],[.ints .u8 8],[.ints .u8 8],[.vals [.int .i64],.ints .u8 8,.ints .u8 8]]⟩
theorem q16i {α:Type}(N:Nat)(t7 i1 a0 d0:Int)(c0 b0 h1:NI)(t0:Int)(q0 r0 h3 h4:NI)(w0:Int)(o0 n0:NI)(kn:St->Option α)(K:AExit->St->Option α):
  roundK Try.prog (q16e α N) 1 0 212 Try.f212 6 6 (buildS q16g [.i t7,.i i1,.i a0,.i d0,.f c0,.f b0,.f h1,.i t0,.f q0,.f r0,.f h3,.f h4,.i w0,.f o0,.f n0]) kn K=q0f2 none t7 i1 d0 c0 b0 h1 t0 q0 r0 h3 h4 w0 o0 a0 n0 (fun a0 n0=>kn (buildS q16g [.i t7,.i i1,.i a0,.i d0,.f c0,.f b0,.f h1,.i t0,.f q0,.f r0,.f h3,.f h4,.i w0,.f o0,.f n0])) (fun r2=>K (.exit 0) (buildS q16h [.i t7,.i d0,.f c0,.f b0,.f h1,.i t0,.f q0,.f r0,.f h3,.f h4,.i w0,.f o0,.f r2])):=by kernel_rfl
theorem q16j {α:Type}(N:Nat)(t7 i1 d0:Int)(c0 b0 h1:NI)(t0:Int)(q0 r0 h3 h4:NI)(w0:Int)(o0:NI)(K:AExit->St->Option α):∀ (m:Nat) (a0:Int) (n0:NI),
  loopN (trimSt ((q16e α N).ann 212 6).head ((q16e α N).ann 212 6).grow 6) (bodyK Try.prog (q16e α N) 1 0 212 Try.f212 6) m (buildS q16g [.i t7,.i i1,.i a0,.i d0,.f c0,.f b0,.f h1,.i t0,.f q0,.f r0,.f h3,.f h4,.i w0,.f o0,.f n0]) (leaveLoop ((q16e α N).ann 212 6) 6 K)=q0f3 none t7 i1 d0 c0 b0 h1 t0 q0 r0 h3 h4 w0 o0 m a0 n0 (fun r2=>K (.exit 0) (buildS q16h [.i t7,.i d0,.f c0,.f b0,.f h1,.i t0,.f q0,.f r0,.f h3,.f h4,.i w0,.f o0,.f r2])):=by
 intro m
 induction m with
 | zero=>intros;rfl
 | succ m ih=>
  intro a0 n0
  rw [q0bc]
  refine (q16i N t7 i1 a0 d0 c0 b0 h1 t0 q0 r0 h3 h4 w0 o0 n0 _ K).trans ?_
  exact congrArg (fun kn=>q0f2 none t7 i1 d0 c0 b0 h1 t0 q0 r0 h3 h4 w0 o0 a0 n0 kn (fun r2=>K (.exit 0) (buildS q16h [.i t7,.i d0,.f c0,.f b0,.f h1,.i t0,.f q0,.f r0,.f h3,.f h4,.i w0,.f o0,.f r2]))) (funext fun a0=>funext fun n0=>ih a0 n0)
def q16k (α:Type)(N:Nat):Env α:=(q16e α N).addLoop2 212 6 (loopSum2 ((q16e α N).ann 212 6) 0 q16g (fun l K=>match l with
  | [.i t7,.i i1,.i a0,.i d0,.f c0,.f b0,.f h1,.i t0,.f q0,.f r0,.f h3,.f h4,.i w0,.f o0,.f n0]=>q0f3 none t7 i1 d0 c0 b0 h1 t0 q0 r0 h3 h4 w0 o0 N a0 n0 (fun r2=>K (.exit 0) (buildS q16h [.i t7,.i d0,.f c0,.f b0,.f h1,.i t0,.f q0,.f r0,.f h3,.f h4,.i w0,.f o0,.f r2]))
  | _=>none) ((q16e α N).ls 212 6))
theorem q16l {α:Type}(N:Nat):EnvOk Try.prog (q16k α N):=(q16f N).addLoop2 Try.func212 (by kernel_rfl) (q0ba q0td q0te (q16f N) Try.func212 (by kernel_rfl) (d:=1) (ro:=0) fun l K r h=>by
 split at h
 ·exact (q16j N _ _ _ _ _ _ _ _ _ _ _ _ _ K N _ _).trans h
 ·cases h)
def q16m:SPat:=⟨[.agg [.vals [.int .i64],.ints .u8 8,.ints .u8 8],.agg [.ints .i64 4]],[]⟩
def q16n:SPat:=⟨[.agg [.vals [.int .i64],.ints .u8 8,.ints .u8 8]],[]⟩
theorem q16o {α:Type}(N:Nat)(g0:Int)(i0 j0 a1:NI)(K:AV->Heap->Option α):
  callK Try.prog (q16k α N) 1 212 0 (buildS q16m [.i g0,.f i0,.f j0,.f a1]).t (buildS q16m [.i g0,.f i0,.f j0,.f a1]).h K=q0f4 none N g0 i0 j0 a1 (fun N1 C0 B1=>retK (buildS q16n [.i N1,.f C0,.f B1]) K):=by kernel_rfl
def q16p (α:Type)(N:Nat):Env α:=(q16k α N).addFun 212 true 0 q16m (fun l K=>match l with
  | [.i g0,.f i0,.f j0,.f a1]=>q0f4 none N g0 i0 j0 a1 (fun N1 C0 B1=>retK (buildS q16n [.i N1,.f C0,.f B1]) K)
  | _=>none)
theorem q16q {α:Type}(N:Nat):EnvOk Try.prog (q16p α N):=(q16l N).addFun q0td q0te (d:=1) fun l K r h=>by
 split at h
 ·exact (q16o N _ _ _ _ K).trans h
 ·cases h
def q16r:SPat:=⟨[.undef,.int .i64,.int .i64,.ptr ⟨⟨0,0⟩,0,0,1⟩,.undef,.undef,.ptr ⟨⟨1,0⟩,0,0,1⟩,.ptr ⟨⟨2,0⟩,0,0,4⟩,.undef,.undef,.undef,.undef,.undef,.undef,.int .i64]++List.replicate 102 .undef,[[.vals [.int .i64],.ints .u8 8,.ints .u8 8],[.vals [.int .i64],.ints .u8 8,.ints .u8 8],[.ints .i64 4]]⟩
def q16s:SPat:=⟨[.undef,.undef,.undef,.undef,.undef,.undef,.ptr ⟨⟨1,0⟩,0,0,1⟩,.ptr ⟨⟨2,0⟩,0,0,4⟩,.boolC true]++List.replicate 108 .undef,[[.vals [.int .i64],.ints .u8 8,.ints .u8 8],[.vals [.int .i64],.ints .u8 8,.ints .u8 8],[.ints .i64 4]]⟩
def q16t:SPat:=⟨[.undef,.undef,.undef,.undef,.undef,.undef,.ptr ⟨⟨1,0⟩,0,0,1⟩,.ptr ⟨⟨2,0⟩,0,0,4⟩]++List.replicate 109 .undef,[[.vals [.int .i64],.ints .u8 8,.ints .u8 8],[.vals [.int .i64],.ints .u8 8,.ints .u8 8],[.ints .i64 4]]⟩
theorem q16u {α:Type}(N:Nat)(t1 t2 B0 d0:Int)(c0 b0:NI)(m0:Int)(f0 e0 h2:NI)(kn:St->Option α)(K:AExit->St->Option α):
  roundK Try.prog (q16p α N) 1 0 180 Try.f180 2 3 (buildS q16r [.i t1,.i t2,.i B0,.i d0,.f c0,.f b0,.i m0,.f f0,.f e0,.f h2]) kn K=q0f5 none N t1 t2 d0 c0 b0 m0 f0 e0 h2 B0 (fun B0=>kn (buildS q16r [.i t1,.i t2,.i B0,.i d0,.f c0,.f b0,.i m0,.f f0,.f e0,.f h2])) (fun y1 R0 N0 h2_=>K .ret (buildS q16s [.i d0,.f c0,.f b0,.i y1,.f R0,.f N0,.f h2_])) (K (.exit 0) (buildS q16t [.i d0,.f c0,.f b0,.i m0,.f f0,.f e0,.f h2])):=by kernel_rfl
theorem q16v {α:Type}(N:Nat)(t1 t2 d0:Int)(c0 b0:NI)(m0:Int)(f0 e0 h2:NI)(K:AExit->St->Option α):∀ (m:Nat) (B0:Int),
  loopN (trimSt ((q16p α N).ann 180 2).head ((q16p α N).ann 180 2).grow 3) (bodyK Try.prog (q16p α N) 1 0 180 Try.f180 2) m (buildS q16r [.i t1,.i t2,.i B0,.i d0,.f c0,.f b0,.i m0,.f f0,.f e0,.f h2]) (leaveLoop ((q16p α N).ann 180 2) 3 K)=q0f6 none N t1 t2 d0 c0 b0 m0 f0 e0 h2 m B0 (fun y1 R0 N0 h2_=>K .ret (buildS q16s [.i d0,.f c0,.f b0,.i y1,.f R0,.f N0,.f h2_])) (K (.exit 0) (buildS q16t [.i d0,.f c0,.f b0,.i m0,.f f0,.f e0,.f h2])):=by
 intro m
 induction m with
 | zero=>intros;rfl
 | succ m ih=>
  intro B0
  rw [q0bc]
  refine (q16u N t1 t2 B0 d0 c0 b0 m0 f0 e0 h2 _ K).trans ?_
  exact congrArg (fun kn=>q0f5 none N t1 t2 d0 c0 b0 m0 f0 e0 h2 B0 kn (fun y1 R0 N0 h2_=>K .ret (buildS q16s [.i d0,.f c0,.f b0,.i y1,.f R0,.f N0,.f h2_])) (K (.exit 0) (buildS q16t [.i d0,.f c0,.f b0,.i m0,.f f0,.f e0,.f h2]))) (funext fun B0=>ih B0)
def q16w (α:Type)(N:Nat):Env α:=(q16p α N).addLoop2 180 2 (loopSum2 ((q16p α N).ann 180 2) 0 q16r (fun l K=>match l with
  | [.i t1,.i t2,.i B0,.i d0,.f c0,.f b0,.i m0,.f f0,.f e0,.f h2]=>q0f6 none N t1 t2 d0 c0 b0 m0 f0 e0 h2 N B0 (fun y1 R0 N0 h2_=>K .ret (buildS q16s [.i d0,.f c0,.f b0,.i y1,.f R0,.f N0,.f h2_])) (K (.exit 0) (buildS q16t [.i d0,.f c0,.f b0,.i m0,.f f0,.f e0,.f h2]))
  | _=>none) ((q16p α N).ls 180 2))
theorem q16x {α:Type}(N:Nat):EnvOk Try.prog (q16w α N):=(q16q N).addLoop2 Try.func180 (by kernel_rfl) (q0ba q0td q0te (q16q N) Try.func180 (by kernel_rfl) (d:=1) (ro:=0) fun l K r h=>by
 split at h
 ·exact (q16v N _ _ _ _ _ _ _ _ _ K N _).trans h
 ·cases h)
def q16y:SPat:=⟨[.agg [.vals [.int .i64],.ints .u8 8,.ints .u8 8],.int .i64,.int .i64],[]⟩
def q16z:SPat:=⟨[.tuple [.agg [.vals [.int .i64],.ints .u8 8,.ints .u8 8],.agg [.ints .i64 4],.bool]],[]⟩
theorem q170 {α:Type}(N:Nat)(g0:Int)(i0 j0:NI)(a1 a2:Int)(K:AV->Heap->Option α):
  callK Try.prog (q16w α N) 1 180 0 (buildS q16y [.i g0,.f i0,.f j0,.i a1,.i a2]).t (buildS q16y [.i g0,.f i0,.f j0,.i a1,.i a2]).h K=q0f7 none N g0 i0 j0 a1 a2 (fun w2 x2 y2 C0 B1=>retK (buildS q16z [.i w2,.f x2,.f y2,.f C0,.b B1]) K):=by kernel_rfl
def q171 (α:Type)(N:Nat):Env α:=(q16w α N).addFun 180 true 0 q16y (fun l K=>match l with
  | [.i g0,.f i0,.f j0,.i a1,.i a2]=>q0f7 none N g0 i0 j0 a1 a2 (fun w2 x2 y2 C0 B1=>retK (buildS q16z [.i w2,.f x2,.f y2,.f C0,.b B1]) K)
  | _=>none)
theorem q172 {α:Type}(N:Nat):EnvOk Try.prog (q171 α N):=(q16x N).addFun q0td q0te (d:=1) fun l K r h=>by
 split at h
 ·exact (q170 N _ _ _ _ _ K).trans h
 ·cases h
def q173:SPat:=⟨[.agg [.vals [.int .i64],.ints .u8 8,.ints .u8 8],.int .i64,.int .i64],[]⟩
def q174:SPat:=⟨[.tuple [.bool,.int .i64]],[]⟩
theorem q175 {α:Type}(N:Nat)(g0:Int)(i0 j0:NI)(i r_:Int)(K:AV->Heap->Option α):
  callK Try.prog (q171 α N) 1 210 0 (buildS q173 [.i g0,.f i0,.f j0,.i i,.i r_]).t (buildS q173 [.i g0,.f i0,.f j0,.i i,.i r_]).h K=q0f8 none N g0 i0 j0 i r_ (fun N1 C0=>retK (buildS q174 [.b N1,.i C0]) K):=by kernel_rfl
def q176 (α:Type)(N:Nat):Env α:=(q171 α N).addFun 210 true 0 q173 (fun l K=>match l with
  | [.i g0,.f i0,.f j0,.i i,.i r_]=>q0f8 none N g0 i0 j0 i r_ (fun N1 C0=>retK (buildS q174 [.b N1,.i C0]) K)
  | _=>none)
theorem q177 {α:Type}(N:Nat):EnvOk Try.prog (q176 α N):=(q172 N).addFun q0td q0te (d:=1) fun l K r h=>by
 split at h
 ·exact (q175 N _ _ _ _ _ K).trans h
 ·cases h
def q178:SPat:=⟨[.agg [.vals [.int .i64],.ints .u8 8,.ints .u8 8],.agg [.ints .i64 6]],[]⟩
def q179:SPat:=⟨[.bool],[]⟩
theorem q17a {α:Type}(N:Nat)(g0:Int)(i0 j0 a1:NI)(K:AV->Heap->Option α):
  callK Try.prog (q176 α N) 1 175 0 (buildS q178 [.i g0,.f i0,.f j0,.f a1]).t (buildS q178 [.i g0,.f i0,.f j0,.f a1]).h K=q0f9 none N g0 i0 j0 a1 (fun r__=>retK (buildS q179 [.b r__]) K):=by kernel_rfl
def q17b (α:Type)(N:Nat):Env α:=(q176 α N).addFun 175 true 0 q178 (fun l K=>match l with
  | [.i g0,.f i0,.f j0,.f a1]=>q0f9 none N g0 i0 j0 a1 (fun r__=>retK (buildS q179 [.b r__]) K)
  | _=>none)
theorem q17c {α:Type}(N:Nat):EnvOk Try.prog (q17b α N):=(q177 N).addFun q0td q0te (d:=1) fun l K r h=>by
 split at h
 ·exact (q17a N _ _ _ _ K).trans h
 ·cases h
def q17d:SPat:=⟨[.agg [.vals [.int .i64],.ints .u8 8,.ints .u8 8],.ptr ⟨⟨0,0⟩,0,0,6⟩],[[.ints .i64 6]]⟩
def q17e:SPat:=⟨[.bool],[[.ints .i64 6]]⟩
theorem q17f {α:Type}(N:Nat)(g0:Int)(i0 j0 h0:NI)(K:AV->Heap->Option α):
  callK Try.prog (q17b α N) 1 174 1 (buildS q17d [.i g0,.f i0,.f j0,.f h0]).t (buildS q17d [.i g0,.f i0,.f j0,.f h0]).h K=q0gr none N g0 i0 j0 h0 (fun r__=>retK (buildS q17e [.b r__,.f h0]) K):=by kernel_rfl
def q17g (α:Type)(N:Nat):Env α:=(q17b α N).addFun 174 true 1 q17d (fun l K=>match l with
  | [.i g0,.f i0,.f j0,.f h0]=>q0gr none N g0 i0 j0 h0 (fun r__=>retK (buildS q17e [.b r__,.f h0]) K)
  | _=>none)
theorem q17h {α:Type}(N:Nat):EnvOk Try.prog (q17g α N):=(q17c N).addFun q0td q0te (d:=1) fun l K r h=>by
 split at h
 ·exact (q17f N _ _ _ _ K).trans h
 ·cases h
def q17i:SPat:=⟨[.agg [.vals [.int .i64],.ints .u8 8,.ints .u8 8],.func 174 [.ptr ⟨⟨0,0⟩,0,0,6⟩]],[[.ints .i64 6]]⟩
def q17j:SPat:=⟨[.tuple [.bool,.int .i64]],[[.ints .i64 6]]⟩
theorem q17k {α:Type}(N:Nat)(g0:Int)(i0 j0 h0:NI)(K:AV->Heap->Option α):
  callK Try.prog (q17g α N) 1 109 1 (buildS q17i [.i g0,.f i0,.f j0,.f h0]).t (buildS q17i [.i g0,.f i0,.f j0,.f h0]).h K=q0gs none N g0 i0 j0 h0 (fun N1 C0=>retK (buildS q17j [.b N1,.i C0,.f h0]) K):=by kernel_rfl
def q17l (α:Type)(N:Nat):Env α:=(q17g α N).addFun 109 true 1 q17i (fun l K=>match l with
  | [.i g0,.f i0,.f j0,.f h0]=>q0gs none N g0 i0 j0 h0 (fun N1 C0=>retK (buildS q17j [.b N1,.i C0,.f h0]) K)
  | _=>none)
theorem q17m {α:Type}(N:Nat):EnvOk Try.prog (q17l α N):=(q17h N).addFun q0td q0te (d:=1) fun l K r h=>by
 split at h
 ·exact (q17k N _ _ _ _ K).trans h
 ·cases h
def q17n:SPat:=⟨[.agg [.vals [.int .i64],.ints .u8 8,.ints .u8 8],.agg [.ints .i64 6]],[]⟩
def q17o:SPat:=⟨[.tuple [.bool,.int .i64]],[]⟩
theorem q17p {α:Type}(N:Nat)(g0:Int)(i0 j0 m_:NI)(K:AV->Heap->Option α):
  callK Try.prog (q17l α N) 1 78 0 (buildS q17n [.i g0,.f i0,.f j0,.f m_]).t (buildS q17n [.i g0,.f i0,.f j0,.f m_]).h K=q0gt none N g0 i0 j0 m_ (fun N1 C0=>retK (buildS q17o [.b N1,.i C0]) K):=by kernel_rfl
def q17q (α:Type)(N:Nat):Env α:=(q17l α N).addFun 78 true 0 q17n (fun l K=>match l with
  | [.i g0,.f i0,.f j0,.f m_]=>q0gt none N g0 i0 j0 m_ (fun N1 C0=>retK (buildS q17o [.b N1,.i C0]) K)
  | _=>none)
theorem q17r {α:Type}(N:Nat):EnvOk Try.prog (q17q α N):=(q17m N).addFun q0td q0te (d:=1) fun l K r h=>by
 split at h
 ·exact (q17p N _ _ _ _ K).trans h
 ·cases h
def q17s:SPat:=⟨[.agg [.vals [.int .i64],.ints .u8 8,.ints .u8 8],.agg [.ints .i64 6]],[]⟩
def q17t:SPat:=⟨[.bool],[]⟩
theorem q17u {α:Type}(N:Nat)(g0:Int)(i0 j0 a1:NI)(K:AV->Heap->Option α):
  callK Try.prog (q17q α N) 1 176 0 (buildS q17s [.i g0,.f i0,.f j0,.f a1]).t (buildS q17s [.i g0,.f i0,.f j0,.f a1]).h K=q0eg none N g0 i0 j0 a1 (fun r__=>retK (buildS q17t [.b r__]) K):=by kernel_rfl
def q17v (α:Type)(N:Nat):Env α:=(q17q α N).addFun 176 true 0 q17s (fun l K=>match l with
  | [.i g0,.f i0,.f j0,.f a1]=>q0eg none N g0 i0 j0 a1 (fun r__=>retK (buildS q17t [.b r__]) K)
  | _=>none)
theorem q17w {α:Type}(N:Nat):EnvOk Try.prog (q17v α N):=(q17r N).addFun q0td q0te (d:=1) fun l K r h=>by
 split at h
 ·exact (q17u N _ _ _ _ K).trans h
 ·cases h
def q17x:SPat:=⟨[.agg [.vals [.int .i64],.ints .u8 8,.ints .u8 8],.agg [.ints .i64 6]],[]⟩
def q17y:SPat:=⟨[.tuple [.bool,.int .i64]],[]⟩
theorem q17z {α:Type}(N:Nat)(g0:Int)(i0 j0 m_:NI)(K:AV->Heap->Option α):
  callK Try.prog (q17v α N) 1 79 0 (buildS q17x [.i g0,.f i0,.f j0,.f m_]).t (buildS q17x [.i g0,.f i0,.f j0,.f m_]).h K=q0gu none N g0 i0 j0 m_ (fun N1 C0=>retK (buildS q17y [.b N1,.i C0]) K):=by kernel_rfl
def q180 (α:Type)(N:Nat):Env α:=(q17v α N).addFun 79 true 0 q17x (fun l K=>match l with
  | [.i g0,.f i0,.f j0,.f m_]=>q0gu none N g0 i0 j0 m_ (fun N1 C0=>retK (buildS q17y [.b N1,.i C0]) K)
  | _=>none)
theorem q181 {α:Type}(N:Nat):EnvOk Try.prog (q180 α N):=(q17w N).addFun q0td q0te (d:=1) fun l K r h=>by
 split at h
 ·exact (q17z N _ _ _ _ K).trans h
 ·cases h
def q182 (α:Type)(N:Nat):Env α:=(q180 α N).addAnn 89 4 { head:=[2,4,12,13,14],grow:=[],out:=[2,4],ret:=[4,5] }
theorem q183 {α:Type}(N:Nat):EnvOk Try.prog (q182 α N):=(q181 N).addAnn
def q184:SPat:=⟨[.agg [.vals [.int .i64],.ints .u8 8,.ints .u8 8],.int .i64],[]⟩
def q185:SPat:=⟨[.agg [.vals [.int .i64],.ints .u8 8,.ints .u8 8]],[]⟩
theorem q186 {α:Type}(N:Nat)(g0:Int)(i0 j0:NI)(i:Int)(K:AV->Heap->Option α):
  callK Try.prog (q182 α N) 1 125 0 (buildS q184 [.i g0,.f i0,.f j0,.i i]).t (buildS q184 [.i g0,.f i0,.f j0,.i i]).h K=q0fa none N g0 i0 j0 i (fun C0 B1=>retK (buildS q185 [.i g0,.f C0,.f B1]) K):=by kernel_rfl
def q187 (α:Type)(N:Nat):Env α:=(q182 α N).addFun 125 true 0 q184 (fun l K=>match l with
  | [.i g0,.f i0,.f j0,.i i]=>q0fa none N g0 i0 j0 i (fun C0 B1=>retK (buildS q185 [.i g0,.f C0,.f B1]) K)
  | _=>none)
theorem q188 {α:Type}(N:Nat):EnvOk Try.prog (q187 α N):=(q183 N).addFun q0td q0te (d:=1) fun l K r h=>by
 split at h
 ·exact (q186 N _ _ _ _ K).trans h
 ·cases h
def q189 (α:Type)(N:Nat):Env α:=(q187 α N).addAnn 162 6 { head:=[1,3,6,7,8,9,22,23],grow:=[],out:=[6,7],ret:=[6] }
theorem q18a {α:Type}(N:Nat):EnvOk Try.prog (q189 α N):=(q188 N).addAnn
def q18b:SPat:=⟨[.int .i64,.int .i64,.ptr ⟨⟨0,0⟩,0,0,1⟩],[[.vals [.int .i64]]]⟩
def q18c:SPat:=⟨[.tuple [.int .i64,.int .i64]],[[.vals [.int .i64]]]⟩
theorem q18d {α:Type}(N:Nat)(i row h0:Int)(K:AV->Heap->Option α):
  callK Try.prog (q189 α N) 1 200 1 (buildS q18b [.i i,.i row,.i h0]).t (buildS q18b [.i i,.i row,.i h0]).h K=q0d1 none N i row h0 (fun C0=>retK (buildS q18c [.i i,.i C0,.i h0]) K):=by kernel_rfl
def q18e (α:Type)(N:Nat):Env α:=(q189 α N).addFun 200 true 1 q18b (fun l K=>match l with
  | [.i i,.i row,.i h0]=>q0d1 none N i row h0 (fun C0=>retK (buildS q18c [.i i,.i C0,.i h0]) K)
  | _=>none)
theorem q18f {α:Type}(N:Nat):EnvOk Try.prog (q18e α N):=(q18a N).addFun q0td q0te (d:=1) fun l K r h=>by
 split at h
 ·exact (q18d N _ _ _ K).trans h
 ·cases h
def q18g:SPat:=⟨[.undef,.func 200 [.ptr ⟨⟨0,0⟩,0,0,1⟩],.undef,.ptr ⟨⟨1,0⟩,0,0,1⟩,.undef,.undef,.ptr ⟨⟨2,0⟩,0,0,1⟩,.ptr ⟨⟨3,0⟩,0,0,1⟩,.ptr ⟨⟨3,0⟩,2,0,8⟩,.ptr ⟨⟨3,0⟩,1,0,8⟩,.undef,.undef,.undef,.undef,.undef,.undef,.undef,.undef,.undef,.undef,.undef,.undef,.int .i64,.int .i64]++List.replicate 38 .undef,[[.vals [.int .i64]],[.vals [.int .i64],.ints .u8 8,.ints .u8 8],[.vals [.int .i64],.ints .u8 8,.ints .u8 8],[.vals [.int .i64],.ints .u8 8,.ints .u8 8]]⟩
def q18h:SPat:=⟨[.undef,.undef,.undef,.undef,.undef,.undef,.ptr ⟨⟨2,0⟩,0,0,1⟩,.ptr ⟨⟨3,0⟩,0,0,1⟩]++List.replicate 54 .undef,[[.vals [.int .i64]],[.vals [.int .i64],.ints .u8 8,.ints .u8 8],[.vals [.int .i64],.ints .u8 8,.ints .u8 8],[.vals [.int .i64],.ints .u8 8,.ints .u8 8]]⟩
theorem q18i {α:Type}(N:Nat)(A1 c1 h0 m0:Int)(f0 e0:NI)(t0:Int)(q0 r0:NI)(z0:Int)(x0 y0:NI)(kn:St->Option α)(K:AExit->St->Option α):
  roundK Try.prog (q18e α N) 1 1 162 Try.f162 6 4 (buildS q18g [.i A1,.i c1,.i h0,.i m0,.f f0,.f e0,.i t0,.f q0,.f r0,.i z0,.f x0,.f y0]) kn K=q0d2 none N A1 h0 m0 f0 e0 t0 q0 r0 z0 c1 x0 y0 (fun c1 x0 y0=>kn (buildS q18g [.i A1,.i c1,.i h0,.i m0,.f f0,.f e0,.i t0,.f q0,.f r0,.i z0,.f x0,.f y0])) (fun J2 K2=>K (.exit 0) (buildS q18h [.i h0,.i m0,.f f0,.f e0,.i t0,.f q0,.f r0,.i z0,.f J2,.f K2])):=by kernel_rfl
theorem q18j {α:Type}(N:Nat)(A1 h0 m0:Int)(f0 e0:NI)(t0:Int)(q0 r0:NI)(z0:Int)(K:AExit->St->Option α):∀ (m:Nat) (c1:Int) (x0 y0:NI),
  loopN (trimSt ((q18e α N).ann 162 6).head ((q18e α N).ann 162 6).grow 4) (bodyK Try.prog (q18e α N) 1 1 162 Try.f162 6) m (buildS q18g [.i A1,.i c1,.i h0,.i m0,.f f0,.f e0,.i t0,.f q0,.f r0,.i z0,.f x0,.f y0]) (leaveLoop ((q18e α N).ann 162 6) 4 K)=q0d3 none N A1 h0 m0 f0 e0 t0 q0 r0 z0 m c1 x0 y0 (fun J2 K2=>K (.exit 0) (buildS q18h [.i h0,.i m0,.f f0,.f e0,.i t0,.f q0,.f r0,.i z0,.f J2,.f K2])):=by
 intro m
 induction m with
 | zero=>intros;rfl
 | succ m ih=>
  intro c1 x0 y0
  rw [q0bc]
  refine (q18i N A1 c1 h0 m0 f0 e0 t0 q0 r0 z0 x0 y0 _ K).trans ?_
  exact congrArg (fun kn=>q0d2 none N A1 h0 m0 f0 e0 t0 q0 r0 z0 c1 x0 y0 kn (fun J2 K2=>K (.exit 0) (buildS q18h [.i h0,.i m0,.f f0,.f e0,.i t0,.f q0,.f r0,.i z0,.f J2,.f K2]))) (funext fun c1=>funext fun x0=>funext fun y0=>ih c1 x0 y0)
def q18k (α:Type)(N:Nat):Env α:=(q18e α N).addLoop2 162 6 (loopSum2 ((q18e α N).ann 162 6) 1 q18g (fun l K=>match l with
  | [.i A1,.i c1,.i h0,.i m0,.f f0,.f e0,.i t0,.f q0,.f r0,.i z0,.f x0,.f y0]=>q0d3 none N A1 h0 m0 f0 e0 t0 q0 r0 z0 N c1 x0 y0 (fun J2 K2=>K (.exit 0) (buildS q18h [.i h0,.i m0,.f f0,.f e0,.i t0,.f q0,.f r0,.i z0,.f J2,.f K2]))
  | _=>none) ((q18e α N).ls 162 6))
theorem q18l {α:Type}(N:Nat):EnvOk Try.prog (q18k α N):=(q18f N).addLoop2 Try.func162 (by kernel_rfl) (q0ba q0td q0te (q18f N) Try.func162 (by kernel_rfl) (d:=1) (ro:=1) fun l K r h=>by
 split at h
 ·exact (q18j N _ _ _ _ _ _ _ _ _ K N _ _ _).trans h
 ·cases h)
def q18m:SPat:=⟨[.undef,.func 200 [.ptr ⟨⟨0,0⟩,0,0,1⟩],.undef,.ptr ⟨⟨1,0⟩,0,0,1⟩,.undef,.undef,.ptr ⟨⟨2,0⟩,0,0,1⟩,.ptr ⟨⟨3,0⟩,0,0,1⟩,.ptr ⟨⟨3,0⟩,1,0,8⟩,.ptr ⟨⟨3,0⟩,2,0,8⟩,.undef,.undef,.undef,.undef,.undef,.undef,.undef,.undef,.undef,.undef,.undef,.undef,.int .i64,.int .i64]++List.replicate 38 .undef,[[.vals [.int .i64]],[.vals [.int .i64],.ints .u8 8,.ints .u8 8],[.vals [.int .i64],.ints .u8 8,.ints .u8 8],[.vals [.int .i64],.ints .u8 8,.ints .u8 8]]⟩
def q18n:SPat:=⟨[.undef,.undef,.undef,.undef,.undef,.undef,.ptr ⟨⟨2,0⟩,0,0,1⟩,.ptr ⟨⟨3,0⟩,0,0,1⟩]++List.replicate 54 .undef,[[.vals [.int .i64]],[.vals [.int .i64],.ints .u8 8,.ints .u8 8],[.vals [.int .i64],.ints .u8 8,.ints .u8 8],[.vals [.int .i64],.ints .u8 8,.ints .u8 8]]⟩
theorem q18o {α:Type}(N:Nat)(A1 c1 h0 m0:Int)(f0 e0:NI)(t0:Int)(q0 r0:NI)(z0:Int)(x0 y0:NI)(kn:St->Option α)(K:AExit->St->Option α):
  roundK Try.prog (q18k α N) 1 1 162 Try.f162 6 4 (buildS q18m [.i A1,.i c1,.i h0,.i m0,.f f0,.f e0,.i t0,.f q0,.f r0,.i z0,.f x0,.f y0]) kn K=q0d4 none N A1 h0 m0 f0 e0 t0 q0 r0 z0 c1 x0 y0 (fun c1 x0 y0=>kn (buildS q18m [.i A1,.i c1,.i h0,.i m0,.f f0,.f e0,.i t0,.f q0,.f r0,.i z0,.f x0,.f y0])) (fun J2 K2=>K (.exit 0) (buildS q18n [.i h0,.i m0,.f f0,.f e0,.i t0,.f q0,.f r0,.i z0,.f J2,.f K2])):=by kernel_rfl
theorem q18p {α:Type}(N:Nat)(A1 h0 m0:Int)(f0 e0:NI)(t0:Int)(q0 r0:NI)(z0:Int)(K:AExit->St->Option α):∀ (m:Nat) (c1:Int) (x0 y0:NI),
  loopN (trimSt ((q18k α N).ann 162 6).head ((q18k α N).ann 162 6).grow 4) (bodyK Try.prog (q18k α N) 1 1 162 Try.f162 6) m (buildS q18m [.i A1,.i c1,.i h0,.i m0,.f f0,.f e0,.i t0,.f q0,.f r0,.i z0,.f x0,.f y0]) (leaveLoop ((q18k α N).ann 162 6) 4 K)=q0d5 none N A1 h0 m0 f0 e0 t0 q0 r0 z0 m c1 x0 y0 (fun J2 K2=>K (.exit 0) (buildS q18n [.i h0,.i m0,.f f0,.f e0,.i t0,.f q0,.f r0,.i z0,.f J2,.f K2])):=by
 intro m
 induction m with
 | zero=>intros;rfl
 | succ m ih=>
  intro c1 x0 y0
  rw [q0bc]
  refine (q18o N A1 c1 h0 m0 f0 e0 t0 q0 r0 z0 x0 y0 _ K).trans ?_
  exact congrArg (fun kn=>q0d4 none N A1 h0 m0 f0 e0 t0 q0 r0 z0 c1 x0 y0 kn (fun J2 K2=>K (.exit 0) (buildS q18n [.i h0,.i m0,.f f0,.f e0,.i t0,.f q0,.f r0,.i z0,.f J2,.f K2]))) (funext fun c1=>funext fun x0=>funext fun y0=>ih c1 x0 y0)
def q18q (α:Type)(N:Nat):Env α:=(q18k α N).addLoop2 162 6 (loopSum2 ((q18k α N).ann 162 6) 1 q18m (fun l K=>match l with
  | [.i A1,.i c1,.i h0,.i m0,.f f0,.f e0,.i t0,.f q0,.f r0,.i z0,.f x0,.f y0]=>q0d5 none N A1 h0 m0 f0 e0 t0 q0 r0 z0 N c1 x0 y0 (fun J2 K2=>K (.exit 0) (buildS q18n [.i h0,.i m0,.f f0,.f e0,.i t0,.f q0,.f r0,.i z0,.f J2,.f K2]))
  | _=>none) ((q18k α N).ls 162 6))
theorem q18r {α:Type}(N:Nat):EnvOk Try.prog (q18q α N):=(q18l N).addLoop2 Try.func162 (by kernel_rfl) (q0ba q0td q0te (q18l N) Try.func162 (by kernel_rfl) (d:=1) (ro:=1) fun l K r h=>by
 split at h
 ·exact (q18p N _ _ _ _ _ _ _ _ _ K N _ _ _).trans h
 ·cases h)
def q18s:SPat:=⟨[.agg [.vals [.int .i64],.ints .u8 8,.ints .u8 8],.func 200 [.ptr ⟨⟨0,0⟩,0,0,1⟩],.bool],[[.vals [.int .i64]]]⟩
def q18t:SPat:=⟨[.agg [.vals [.int .i64],.ints .u8 8,.ints .u8 8]],[[.vals [.int .i64]]]⟩
theorem q18u {α:Type}(N:Nat)(g0:Int)(i0 j0:NI)(exchanged:Bool)(h0:Int)(K:AV->Heap->Option α):
  callK Try.prog (q18q α N) 1 162 1 (buildS q18s [.i g0,.f i0,.f j0,.b exchanged,.i h0]).t (buildS q18s [.i g0,.f i0,.f j0,.b exchanged,.i h0]).h K=q0d6 none N g0 i0 j0 exchanged h0 (fun C0 B1=>retK (buildS q18t [.i g0,.f C0,.f B1,.i h0]) K):=by kernel_rfl
def q18v (α:Type)(N:Nat):Env α:=(q18q α N).addFun 162 true 1 q18s (fun l K=>match l with
  | [.i g0,.f i0,.f j0,.b exchanged,.i h0]=>q0d6 none N g0 i0 j0 exchanged h0 (fun C0 B1=>retK (buildS q18t [.i g0,.f C0,.f B1,.i h0]) K)
  | _=>none)
theorem q18w {α:Type}(N:Nat):EnvOk Try.prog (q18v α N):=(q18r N).addFun q0td q0te (d:=1) fun l K r h=>by
 split at h
 ·exact (q18u N _ _ _ _ _ K).trans h
 ·cases h
def q18x:SPat:=⟨[.agg [.vals [.int .i64],.ints .u8 8,.ints .u8 8],.int .i64],[]⟩
def q18y:SPat:=⟨[.agg [.vals [.int .i64],.ints .u8 8,.ints .u8 8]],[]⟩
theorem q18z {α:Type}(N:Nat)(g0:Int)(i0 j0:NI)(r_:Int)(K:AV->Heap->Option α):
  callK Try.prog (q18v α N) 1 131 0 (buildS q18x [.i g0,.f i0,.f j0,.i r_]).t (buildS q18x [.i g0,.f i0,.f j0,.i r_]).h K=q0d7 none N g0 i0 j0 r_ (fun C0 B1=>retK (buildS q18y [.i g0,.f C0,.f B1]) K):=by kernel_rfl
def q190 (α:Type)(N:Nat):Env α:=(q18v α N).addFun 131 true 0 q18x (fun l K=>match l with
  | [.i g0,.f i0,.f j0,.i r_]=>q0d7 none N g0 i0 j0 r_ (fun C0 B1=>retK (buildS q18y [.i g0,.f C0,.f B1]) K)
  | _=>none)
theorem q191 {α:Type}(N:Nat):EnvOk Try.prog (q190 α N):=(q18w N).addFun q0td q0te (d:=1) fun l K r h=>by
 split at h
 ·exact (q18z N _ _ _ _ K).trans h
 ·cases h
def q192:SPat:=⟨[.agg [.ints .i64 6]],[]⟩
def q193:SPat:=⟨[.agg [.ints .i64 4]],[]⟩
theorem q194 {α:Type}(N:Nat)(m_:NI)(K:AV->Heap->Option α):
  callK Try.prog (q190 α N) 1 217 0 (buildS q192 [.f m_]).t (buildS q192 [.f m_]).h K=q0fb none N m_ (fun r__=>retK (buildS q193 [.f r__]) K):=by kernel_rfl
def q195 (α:Type)(N:Nat):Env α:=(q190 α N).addFun 217 true 0 q192 (fun l K=>match l with
  | [.f m_]=>q0fb none N m_ (fun r__=>retK (buildS q193 [.f r__]) K)
  | _=>none)
theorem q196 {α:Type}(N:Nat):EnvOk Try.prog (q195 α N):=(q191 N).addFun q0td q0te (d:=1) fun l K r h=>by
 split at h
 ·exact (q194 N _ K).trans h
 ·cases h
def q197:SPat:=⟨[.agg [.vals [.int .i64],.ints .u8 8,.ints .u8 8],.agg [.ints .i64 6]],[]⟩
def q198:SPat:=⟨[.agg [.vals [.int .i64],.ints .u8 8,.ints .u8 8]],[]⟩
theorem q199 {α:Type}(N:Nat)(g0:Int)(i0 j0 m_:NI)(K:AV->Heap->Option α):
  callK Try.prog (q195 α N) 1 188 0 (buildS q197 [.i g0,.f i0,.f j0,.f m_]).t (buildS q197 [.i g0,.f i0,.f j0,.f m_]).h K=q0fc none N g0 i0 j0 m_ (fun N1 C0 B1=>retK (buildS q198 [.i N1,.f C0,.f B1]) K):=by kernel_rfl
def q19a (α:Type)(N:Nat):Env α:=(q195 α N).addFun 188 true 0 q197 (fun l K=>match l with
  | [.i g0,.f i0,.f j0,.f m_]=>q0fc none N g0 i0 j0 m_ (fun N1 C0 B1=>retK (buildS q198 [.i N1,.f C0,.f B1]) K)
  | _=>none)
theorem q19b {α:Type}(N:Nat):EnvOk Try.prog (q19a α N):=(q196 N).addFun q0td q0te (d:=1) fun l K r h=>by
 split at h
 ·exact (q199 N _ _ _ _ K).trans h
 ·cases h
def q19c:SPat:=⟨[.undef,.undef,.ptr ⟨⟨1,0⟩,0,0,1⟩,.undef,.ptr ⟨⟨2,0⟩,0,0,1⟩,.undef,.undef,.undef,.undef,.undef,.undef,.undef,.slice ⟨⟨0,0⟩,0,0,6⟩ 1 1 6 true,.intC .i64 1,.int .i64]++List.replicate 13 .undef,[[.ints .i64 6],[.vals [.int .i64],.ints .u8 8,.ints .u8 8],[.vals [.int .i64],.ints .u8 8,.ints .u8 8]]⟩
def q19d:SPat:=⟨[.undef,.undef,.undef,.undef,.ptr ⟨⟨2,0⟩,0,0,1⟩,.intC .i64 5]++List.replicate 22 .undef,[[.ints .i64 6],[.vals [.int .i64],.ints .u8 8,.ints .u8 8],[.vals [.intC .i64 0],.ints .u8 8,.ints .u8 8]]⟩
def q19e:SPat:=⟨[.undef,.undef,.ptr ⟨⟨1,0⟩,0,0,1⟩,.undef,.ptr ⟨⟨2,0⟩,0,0,1⟩]++List.replicate 23 .undef,[[.ints .i64 6],[.vals [.int .i64],.ints .u8 8,.ints .u8 8],[.vals [.int .i64],.ints .u8 8,.ints .u8 8]]⟩
theorem q19f {α:Type}(N:Nat)(B0:Int)(h0:NI)(m0:Int)(f0 e0:NI)(t0:Int)(q0 r0:NI)(kn:St->Option α)(K:AExit->St->Option α):
  roundK Try.prog (q19a α N) 1 1 89 Try.f89 4 3 (buildS q19c [.i B0,.f h0,.i m0,.f f0,.f e0,.i t0,.f q0,.f r0]) kn K=q0fd none N h0 t0 q0 r0 B0 m0 f0 e0 (fun B0 m0 f0 e0=>kn (buildS q19c [.i B0,.f h0,.i m0,.f f0,.f e0,.i t0,.f q0,.f r0])) (fun y1 R0 N0 i2 j2=>K .ret (buildS q19d [.f h0,.i y1,.f R0,.f N0,.f i2,.f j2])) (fun y1 R0 N0=>K (.exit 0) (buildS q19e [.f h0,.i y1,.f R0,.f N0,.i t0,.f q0,.f r0])):=by kernel_rfl
theorem q19g {α:Type}(N:Nat)(h0:NI)(t0:Int)(q0 r0:NI)(K:AExit->St->Option α):∀ (m:Nat) (B0 m0:Int) (f0 e0:NI),
  loopN (trimSt ((q19a α N).ann 89 4).head ((q19a α N).ann 89 4).grow 3) (bodyK Try.prog (q19a α N) 1 1 89 Try.f89 4) m (buildS q19c [.i B0,.f h0,.i m0,.f f0,.f e0,.i t0,.f q0,.f r0]) (leaveLoop ((q19a α N).ann 89 4) 3 K)=q0fe none N h0 t0 q0 r0 m B0 m0 f0 e0 (fun y1 R0 N0 i2 j2=>K .ret (buildS q19d [.f h0,.i y1,.f R0,.f N0,.f i2,.f j2])) (fun y1 R0 N0=>K (.exit 0) (buildS q19e [.f h0,.i y1,.f R0,.f N0,.i t0,.f q0,.f r0])):=by
 intro m
 induction m with
 | zero=>intros;rfl
 | succ m ih=>
  intro B0 m0 f0 e0
  rw [q0bc]
  refine (q19f N B0 h0 m0 f0 e0 t0 q0 r0 _ K).trans ?_
  exact congrArg (fun kn=>q0fd none N h0 t0 q0 r0 B0 m0 f0 e0 kn (fun y1 R0 N0 i2 j2=>K .ret (buildS q19d [.f h0,.i y1,.f R0,.f N0,.f i2,.f j2])) (fun y1 R0 N0=>K (.exit 0) (buildS q19e [.f h0,.i y1,.f R0,.f N0,.i t0,.f q0,.f r0]))) (funext fun B0=>funext fun m0=>funext fun f0=>funext fun e0=>ih B0 m0 f0 e0)
def q19h (α:Type)(N:Nat):Env α:=(q19a α N).addLoop2 89 4 (loopSum2 ((q19a α N).ann 89 4) 1 q19c (fun l K=>match l with
  | [.i B0,.f h0,.i m0,.f f0,.f e0,.i t0,.f q0,.f r0]=>q0fe none N h0 t0 q0 r0 N B0 m0 f0 e0 (fun y1 R0 N0 i2 j2=>K .ret (buildS q19d [.f h0,.i y1,.f R0,.f N0,.f i2,.f j2])) (fun y1 R0 N0=>K (.exit 0) (buildS q19e [.f h0,.i y1,.f R0,.f N0,.i t0,.f q0,.f r0]))
  | _=>none) ((q19a α N).ls 89 4))
theorem q19i {α:Type}(N:Nat):EnvOk Try.prog (q19h α N):=(q19b N).addLoop2 Try.func89 (by kernel_rfl) (q0ba q0td q0te (q19b N) Try.func89 (by kernel_rfl) (d:=1) (ro:=1) fun l K r h=>by
 split at h
 ·exact (q19g N _ _ _ _ K N _ _ _ _).trans h
 ·cases h)
def q19j:SPat:=⟨[.agg [.vals [.int .i64],.ints .u8 8,.ints .u8 8],.slice ⟨⟨0,0⟩,0,0,6⟩ 1 1 6 true],[[.ints .i64 6]]⟩
def q19k:SPat:=⟨[.tuple [.agg [.vals [.int .i64],.ints .u8 8,.ints .u8 8],.int .i64]],[[.ints .i64 6]]⟩
theorem q19l {α:Type}(N:Nat)(g0:Int)(i0 j0 h0:NI)(K:AV->Heap->Option α):
  callK Try.prog (q19h α N) 1 89 1 (buildS q19j [.i g0,.f i0,.f j0,.f h0]).t (buildS q19j [.i g0,.f i0,.f j0,.f h0]).h K=q0ff none N g0 i0 j0 h0 (fun w2 x2 y2 C0=>retK (buildS q19k [.i w2,.f x2,.f y2,.i C0,.f h0]) K):=by kernel_rfl
def q19m (α:Type)(N:Nat):Env α:=(q19h α N).addFun 89 true 1 q19j (fun l K=>match l with
  | [.i g0,.f i0,.f j0,.f h0]=>q0ff none N g0 i0 j0 h0 (fun w2 x2 y2 C0=>retK (buildS q19k [.i w2,.f x2,.f y2,.i C0,.f h0]) K)
  | _=>none)
theorem q19n {α:Type}(N:Nat):EnvOk Try.prog (q19m α N):=(q19i N).addFun q0td q0te (d:=1) fun l K r h=>by
 split at h
 ·exact (q19l N _ _ _ _ K).trans h
 ·cases h
def q19o:SPat:=⟨[.agg [.vals [.int .i64],.ints .u8 8,.ints .u8 8],.agg [.ints .i64 6]],[]⟩
def q19p:SPat:=⟨[.tuple [.agg [.vals [.int .i64],.ints .u8 8,.ints .u8 8],.int .i64]],[]⟩
theorem q19q {α:Type}(N:Nat)(g0:Int)(i0 j0 m_:NI)(K:AV->Heap->Option α):
  callK Try.prog (q19m α N) 1 80 0 (buildS q19o [.i g0,.f i0,.f j0,.f m_]).t (buildS q19o [.i g0,.f i0,.f j0,.f m_]).h K=q0fg none N g0 i0 j0 m_ (fun w2 x2 y2 C0=>retK (buildS q19p [.i w2,.f x2,.f y2,.i C0]) K):=by kernel_rfl
def q19r (α:Type)(N:Nat):Env α:=(q19m α N).addFun 80 true 0 q19o (fun l K=>match l with
  | [.i g0,.f i0,.f j0,.f m_]=>q0fg none N g0 i0 j0 m_ (fun w2 x2 y2 C0=>retK (buildS q19p [.i w2,.f x2,.f y2,.i C0]) K)
  | _=>none)
theorem q19s {α:Type}(N:Nat):EnvOk Try.prog (q19r α N):=(q19n N).addFun q0td q0te (d:=1) fun l K r h=>by
 split at h
 ·exact (q19q N _ _ _ _ K).trans h
 ·cases h
def q19t:SPat:=⟨[.agg [.vals [.int .i64],.ints .u8 8,.ints .u8 8],.agg [.ints .i64 6]],[]⟩
def q19u:SPat:=⟨[.int .i64],[]⟩
theorem q19v {α:Type}(N:Nat)(g0:Int)(i0 j0 m_:NI)(K:AV->Heap->Option α):
  callK Try.prog (q19r α N) 1 177 0 (buildS q19t [.i g0,.f i0,.f j0,.f m_]).t (buildS q19t [.i g0,.f i0,.f j0,.f m_]).h K=q0eh none N g0 i0 j0 m_ (fun r__=>retK (buildS q19u [.i r__]) K):=by kernel_rfl
def q19w (α:Type)(N:Nat):Env α:=(q19r α N).addFun 177 true 0 q19t (fun l K=>match l with
  | [.i g0,.f i0,.f j0,.f m_]=>q0eh none N g0 i0 j0 m_ (fun r__=>retK (buildS q19u [.i r__]) K)
  | _=>none)
theorem q19x {α:Type}(N:Nat):EnvOk Try.prog (q19w α N):=(q19s N).addFun q0td q0te (d:=1) fun l K r h=>by
 split at h
 ·exact (q19v N _ _ _ _ K).trans h
 ·cases h
def q19y:SPat:=⟨[.agg [.vals [.int .i64],.ints .u8 8,.ints .u8 8],.int .i64],[]⟩
def q19z:SPat:=⟨[.agg [.vals [.int .i64],.ints .u8 8,.ints .u8 8]],[]⟩
theorem q1a0 {α:Type}(N:Nat)(g0:Int)(i0 j0:NI)(i:Int)(K:AV->Heap->Option α):
  callK Try.prog (q19w α N) 1 128 0 (buildS q19y [.i g0,.f i0,.f j0,.i i]).t (buildS q19y [.i g0,.f i0,.f j0,.i i]).h K=q0ei none N g0 i0 j0 i (fun C0 B1=>retK (buildS q19z [.i g0,.f C0,.f B1]) K):=by kernel_rfl
def q1a1 (α:Type)(N:Nat):Env α:=(q19w α N).addFun 128 true 0 q19y (fun l K=>match l with
  | [.i g0,.f i0,.f j0,.i i]=>q0ei none N g0 i0 j0 i (fun C0 B1=>retK (buildS q19z [.i g0,.f C0,.f B1]) K)
  | _=>none)
theorem q1a2 {α:Type}(N:Nat):EnvOk Try.prog (q1a1 α N):=(q19x N).addFun q0td q0te (d:=1) fun l K r h=>by
 split at h
 ·exact (q1a0 N _ _ _ _ K).trans h
 ·cases h
def q1a3 (α:Type)(N:Nat):Env α:=(q1a1 α N).addAnn 133 3 { head:=[2,4,5,6,7],grow:=[],out:=[2,4],ret:=[4] }
theorem q1a4 {α:Type}(N:Nat):EnvOk Try.prog (q1a3 α N):=(q1a2 N).addAnn
def q1a5:SPat:=⟨[.undef,.undef,.ptr ⟨⟨0,0⟩,0,0,1⟩,.undef,.ptr ⟨⟨1,0⟩,0,0,1⟩,.int .u8,.int .u8,.int .i64]++List.replicate 48 .undef,[[.vals [.int .i64],.ints .u8 8,.ints .u8 8],[.vals [.int .i64],.ints .u8 8,.ints .u8 8]]⟩
def q1a6:SPat:=⟨[.undef,.undef,.ptr ⟨⟨0,0⟩,0,0,1⟩,.undef,.ptr ⟨⟨1,0⟩,0,0,1⟩]++List.replicate 51 .undef,[[.vals [.int .i64],.ints .u8 8,.ints .u8 8],[.vals [.int .i64],.ints .u8 8,.ints .u8 8]]⟩
theorem q1a7 {α:Type}(N:Nat)(a b i d0:Int)(c0 b0:NI)(m0:Int)(f0 e0:NI)(kn:St->Option α)(K:AExit->St->Option α):
  roundK Try.prog (q1a3 α N) 1 0 133 Try.f133 3 2 (buildS q1a5 [.i a,.i b,.i i,.i d0,.f c0,.f b0,.i m0,.f f0,.f e0]) kn K=q0ct none a b d0 m0 f0 e0 i c0 b0 (fun i c0 b0=>kn (buildS q1a5 [.i a,.i b,.i i,.i d0,.f c0,.f b0,.i m0,.f f0,.f e0])) (fun k4 l4=>K (.exit 0) (buildS q1a6 [.i d0,.f k4,.f l4,.i m0,.f f0,.f e0])):=by kernel_rfl
theorem q1a8 {α:Type}(N:Nat)(a b d0 m0:Int)(f0 e0:NI)(K:AExit->St->Option α):∀ (m:Nat) (i:Int) (c0 b0:NI),
  loopN (trimSt ((q1a3 α N).ann 133 3).head ((q1a3 α N).ann 133 3).grow 2) (bodyK Try.prog (q1a3 α N) 1 0 133 Try.f133 3) m (buildS q1a5 [.i a,.i b,.i i,.i d0,.f c0,.f b0,.i m0,.f f0,.f e0]) (leaveLoop ((q1a3 α N).ann 133 3) 2 K)=q0cu none a b d0 m0 f0 e0 m i c0 b0 (fun k4 l4=>K (.exit 0) (buildS q1a6 [.i d0,.f k4,.f l4,.i m0,.f f0,.f e0])):=by
 intro m
 induction m with
 | zero=>intros;rfl
 | succ m ih=>
  intro i c0 b0
  rw [q0bc]
  refine (q1a7 N a b i d0 c0 b0 m0 f0 e0 _ K).trans ?_
  exact congrArg (fun kn=>q0ct none a b d0 m0 f0 e0 i c0 b0 kn (fun k4 l4=>K (.exit 0) (buildS q1a6 [.i d0,.f k4,.f l4,.i m0,.f f0,.f e0]))) (funext fun i=>funext fun c0=>funext fun b0=>ih i c0 b0)
def q1a9 (α:Type)(N:Nat):Env α:=(q1a3 α N).addLoop2 133 3 (loopSum2 ((q1a3 α N).ann 133 3) 0 q1a5 (fun l K=>match l with
  | [.i a,.i b,.i i,.i d0,.f c0,.f b0,.i m0,.f f0,.f e0]=>q0cu none a b d0 m0 f0 e0 N i c0 b0 (fun k4 l4=>K (.exit 0) (buildS q1a6 [.i d0,.f k4,.f l4,.i m0,.f f0,.f e0]))
  | _=>none) ((q1a3 α N).ls 133 3))
theorem q1aa {α:Type}(N:Nat):EnvOk Try.prog (q1a9 α N):=(q1a4 N).addLoop2 Try.func133 (by kernel_rfl) (q0ba q0td q0te (q1a4 N) Try.func133 (by kernel_rfl) (d:=1) (ro:=0) fun l K r h=>by
 split at h
 ·exact (q1a8 N _ _ _ _ _ _ K N _ _ _).trans h
 ·cases h)
def q1ab:SPat:=⟨[.agg [.vals [.int .i64],.ints .u8 8,.ints .u8 8],.int .i64],[]⟩
def q1ac:SPat:=⟨[.agg [.vals [.int .i64],.ints .u8 8,.ints .u8 8]],[]⟩
theorem q1ad {α:Type}(N:Nat)(g0:Int)(i0 j0:NI)(r_:Int)(K:AV->Heap->Option α):
  callK Try.prog (q1a9 α N) 1 133 0 (buildS q1ab [.i g0,.f i0,.f j0,.i r_]).t (buildS q1ab [.i g0,.f i0,.f j0,.i r_]).h K=q0cv none N g0 i0 j0 r_ (fun C0 B1=>retK (buildS q1ac [.i g0,.f C0,.f B1]) K):=by kernel_rfl
def q1ae (α:Type)(N:Nat):Env α:=(q1a9 α N).addFun 133 true 0 q1ab (fun l K=>match l with
  | [.i g0,.f i0,.f j0,.i r_]=>q0cv none N g0 i0 j0 r_ (fun C0 B1=>retK (buildS q1ac [.i g0,.f C0,.f B1]) K)
  | _=>none)
theorem q1af {α:Type}(N:Nat):EnvOk Try.prog (q1ae α N):=(q1aa N).addFun q0td q0te (d:=1) fun l K r h=>by
 split at h
 ·exact (q1ad N _ _ _ _ K).trans h
 ·cases h
def q1ag:SPat:=⟨[.agg [.vals [.int .i64],.ints .u8 8,.ints .u8 8],.agg [.ints .i64 6]],[]⟩
def q1ah:SPat:=⟨[.agg [.vals [.int .i64],.ints .u8 8,.ints .u8 8]],[]⟩
theorem q1ai {α:Type}(N:Nat)(g0:Int)(i0 j0 m_:NI)(K:AV->Heap->Option α):
  callK Try.prog (q1ae α N) 1 178 0 (buildS q1ag [.i g0,.f i0,.f j0,.f m_]).t (buildS q1ag [.i g0,.f i0,.f j0,.f m_]).h K=q0en none N g0 i0 j0 m_ (fun N1 C0 B1=>retK (buildS q1ah [.i N1,.f C0,.f B1]) K):=by kernel_rfl
def q1aj (α:Type)(N:Nat):Env α:=(q1ae α N).addFun 178 true 0 q1ag (fun l K=>match l with
  | [.i g0,.f i0,.f j0,.f m_]=>q0en none N g0 i0 j0 m_ (fun N1 C0 B1=>retK (buildS q1ah [.i N1,.f C0,.f B1]) K)
  | _=>none)
theorem q1ak {α:Type}(N:Nat):EnvOk Try.prog (q1aj α N):=(q1af N).addFun q0td q0te (d:=1) fun l K r h=>by
 split at h
 ·exact (q1ai N _ _ _ _ K).trans h
 ·cases h
def q1al:SPat:=⟨[.agg [.vals [.int .i64],.ints .u8 8,.ints .u8 8],.agg [.ints .i64 6]],[]⟩
def q1am:SPat:=⟨[.tuple [.agg [.vals [.int .i64],.ints .u8 8,.ints .u8 8],.int .i64]],[]⟩
theorem q1an {α:Type}(N:Nat)(g0:Int)(i0 j0 m_:NI)(K:AV->Heap->Option α):
  callK Try.prog (q1aj α N) 1 81 0 (buildS q1al [.i g0,.f i0,.f j0,.f m_]).t (buildS q1al [.i g0,.f i0,.f j0,.f m_]).h K=q0eo none N g0 i0 j0 m_ (fun w2 x2 y2 C0=>retK (buildS q1am [.i w2,.f x2,.f y2,.i C0]) K):=by kernel_rfl
def q1ao (α:Type)(N:Nat):Env α:=(q1aj α N).addFun 81 true 0 q1al (fun l K=>match l with
  | [.i g0,.f i0,.f j0,.f m_]=>q0eo none N g0 i0 j0 m_ (fun w2 x2 y2 C0=>retK (buildS q1am [.i w2,.f x2,.f y2,.i C0]) K)
  | _=>none)
theorem q1ap {α:Type}(N:Nat):EnvOk Try.prog (q1ao α N):=(q1ak N).addFun q0td q0te (d:=1) fun l K r h=>by
 split at h
 ·exact (q1an N _ _ _ _ K).trans h
 ·cases h
def q1aq:SPat:=⟨[.agg [.vals [.int .i64],.ints .u8 8,.ints .u8 8],.agg [.ints .i64 6]],[]⟩
def q1ar:SPat:=⟨[.tuple [.agg [.ints .i64 6],.int .i64]],[]⟩
theorem q1as {α:Type}(N:Nat)(g0:Int)(i0 j0 m_:NI)(K:AV->Heap->Option α):
  callK Try.prog (q1ao α N) 1 82 0 (buildS q1aq [.i g0,.f i0,.f j0,.f m_]).t (buildS q1aq [.i g0,.f i0,.f j0,.f m_]).h K=q0gv none N g0 i0 j0 m_ (fun N1 C0=>retK (buildS q1ar [.f N1,.i C0]) K):=by kernel_rfl
def q1at (α:Type)(N:Nat):Env α:=(q1ao α N).addFun 82 true 0 q1aq (fun l K=>match l with
  | [.i g0,.f i0,.f j0,.f m_]=>q0gv none N g0 i0 j0 m_ (fun N1 C0=>retK (buildS q1ar [.f N1,.i C0]) K)
  | _=>none)
theorem q1au {α:Type}(N:Nat):EnvOk Try.prog (q1at α N):=(q1ap N).addFun q0td q0te (d:=1) fun l K r h=>by
 split at h
 ·exact (q1as N _ _ _ _ K).trans h
 ·cases h
def q1av:SPat:=⟨[.agg [.vals [.int .i64],.ints .u8 8,.ints .u8 8],.agg [.ints .i64 6]],[]⟩
def q1aw:SPat:=⟨[.tuple [.agg [.ints .i64 6],.int .i64]],[]⟩
theorem q1ax {α:Type}(N:Nat)(g0:Int)(i0 j0 m_:NI)(K:AV->Heap->Option α):
  callK Try.prog (q1at α N) 1 83 0 (buildS q1av [.i g0,.f i0,.f j0,.f m_]).t (buildS q1av [.i g0,.f i0,.f j0,.f m_]).h K=q0gw none N g0 i0 j0 m_ (fun N1 C0=>retK (buildS q1aw [.f N1,.i C0]) K):=by kernel_rfl
def q1ay (α:Type)(N:Nat):Env α:=(q1at α N).addFun 83 true 0 q1av (fun l K=>match l with
  | [.i g0,.f i0,.f j0,.f m_]=>q0gw none N g0 i0 j0 m_ (fun N1 C0=>retK (buildS q1aw [.f N1,.i C0]) K)
  | _=>none)
theorem q1az {α:Type}(N:Nat):EnvOk Try.prog (q1ay α N):=(q1au N).addFun q0td q0te (d:=1) fun l K r h=>by
 split at h
 ·exact (q1ax N _ _ _ _ K).trans h
 ·cases h
def q1b0:SPat:=⟨[.sliceV 0 0 0 1 false],[[.intsV .u8]]⟩
def q1b1:SPat:=⟨[.agg [.vals [.int .i64],.ints .u8 8,.ints .u8 8]],[[.intsV .u8]]⟩
theorem q1b2 {α:Type}(N o1 j1 q1 l0:Nat)(h0:NI)(K:AV->Heap->Option α):
  callK Try.prog (q1ay α N) 1 84 1 (buildS q1b0 [.n o1,.n j1,.n q1,.n l0,.f h0]).t (buildS q1b0 [.n o1,.n j1,.n q1,.n l0,.f h0]).h K=q0gx none N o1 j1 q1 l0 h0 (fun N1 C0 B1=>retK (buildS q1b1 [.i N1,.f C0,.f B1,.n l0,.f h0]) K):=by kernel_rfl
def q1b3 (α:Type)(N:Nat):Env α:=(q1ay α N).addFun 84 true 1 q1b0 (fun l K=>match l with
  | [.n o1,.n j1,.n q1,.n l0,.f h0]=>q0gx none N o1 j1 q1 l0 h0 (fun N1 C0 B1=>retK (buildS q1b1 [.i N1,.f C0,.f B1,.n l0,.f h0]) K)
  | _=>none)
theorem q1b4 {α:Type}(N:Nat):EnvOk Try.prog (q1b3 α N):=(q1az N).addFun q0td q0te (d:=1) fun l K r h=>by
 split at h
 ·exact (q1b2 N _ _ _ _ _ K).trans h
 ·cases h
def q1b5 (α:Type)(N:Nat):Env α:=(q1b3 α N).addAnn 88 5 { head:=[2,4,5,6,7,8],grow:=[7],out:=[2,5,7],ret:=[2,3] }
theorem q1b6 {α:Type}(N:Nat):EnvOk Try.prog (q1b5 α N):=(q1b4 N).addAnn
def q1b7:SPat:=⟨[.undef,.undef,.ptr ⟨⟨1,0⟩,0,0,1⟩,.undef,.ptr ⟨⟨2,0⟩,0,0,3⟩,.ptr ⟨⟨3,0⟩,0,0,1⟩,.ptr ⟨⟨5,0⟩,0,0,1⟩,.sliceV 4 0 0 6 false,.int .i64]++List.replicate 32 .undef,[[.intsV .u8],[.vals [.int .i64],.ints .u8 8,.ints .u8 8],[.vals [.sliceV 0 0 0 1 false,.int .i64,.int .u64]],[.vals [.int .i64],.ints .u8 8,.ints .u8 8],[.vec .i64],[.vals [.int .i64],.ints .u8 8,.ints .u8 8]]⟩
def q1b8:SPat:=⟨[.undef,.undef,.ptr ⟨⟨1,0⟩,0,0,1⟩,.undef,.undef,.ptr ⟨⟨3,0⟩,0,0,1⟩,.undef,.sliceV 4 0 0 6 false]++List.replicate 33 .undef,[[.intsV .u8],[.vals [.int .i64],.ints .u8 8,.ints .u8 8],[.vals [.sliceV 0 0 0 1 false,.int .i64,.int .u64]],[.vals [.int .i64],.ints .u8 8,.ints .u8 8],[.vec .i64],[.vals [.int .i64],.ints .u8 8,.ints .u8 8]]⟩
theorem q1b9 {α:Type}(N U1 E1 Y1:Nat)(k:Int)(l0:Nat)(h0:NI)(m0:Int)(f0 e0:NI)(l3 m3 n3:Nat)(q0 r0 z0:Int)(x0 y0:NI)(h4:List Int)(w0:Int)(o0 n0:NI)(kn:St->Option α)(K:AExit->St->Option α):
  roundK Try.prog (q1b5 α N) 1 1 88 Try.f88 5 6 (buildS q1b7 [.n U1,.n E1,.n Y1,.i k,.n l0,.f h0,.i m0,.f f0,.f e0,.n l3,.n m3,.n n3,.i q0,.i r0,.i z0,.f x0,.f y0,.l h4,.i w0,.f o0,.f n0]) kn K=q0gy none N l0 h0 m0 f0 e0 l3 m3 n3 z0 x0 y0 U1 E1 Y1 k q0 r0 h4 w0 o0 n0 (fun U1 E1 Y1 k q0 r0 h4 w0 o0 n0=>kn (buildS q1b7 [.n U1,.n E1,.n Y1,.i k,.n l0,.f h0,.i m0,.f f0,.f e0,.n l3,.n m3,.n n3,.i q0,.i r0,.i z0,.f x0,.f y0,.l h4,.i w0,.f o0,.f n0])) (fun m4 n4 o4 i2 j2 h4_ p4 L2 r2=>K (.exit 0) (buildS q1b8 [.n m4,.n n4,.n o4,.n l0,.f h0,.i m0,.f f0,.f e0,.n l3,.n m3,.n n3,.i i2,.i j2,.i z0,.f x0,.f y0,.l h4_,.i p4,.f L2,.f r2])):=by kernel_rfl
theorem q1ba {α:Type}(N l0:Nat)(h0:NI)(m0:Int)(f0 e0:NI)(l3 m3 n3:Nat)(z0:Int)(x0 y0:NI)(K:AExit->St->Option α):∀ (m U1 E1 Y1:Nat) (k q0 r0:Int) (h4:List Int) (w0:Int) (o0 n0:NI),
  loopN (trimSt ((q1b5 α N).ann 88 5).head ((q1b5 α N).ann 88 5).grow 6) (bodyK Try.prog (q1b5 α N) 1 1 88 Try.f88 5) m (buildS q1b7 [.n U1,.n E1,.n Y1,.i k,.n l0,.f h0,.i m0,.f f0,.f e0,.n l3,.n m3,.n n3,.i q0,.i r0,.i z0,.f x0,.f y0,.l h4,.i w0,.f o0,.f n0]) (leaveLoop ((q1b5 α N).ann 88 5) 6 K)=q0gz none N l0 h0 m0 f0 e0 l3 m3 n3 z0 x0 y0 m U1 E1 Y1 k q0 r0 h4 w0 o0 n0 (fun m4 n4 o4 i2 j2 h4_ p4 L2 r2=>K (.exit 0) (buildS q1b8 [.n m4,.n n4,.n o4,.n l0,.f h0,.i m0,.f f0,.f e0,.n l3,.n m3,.n n3,.i i2,.i j2,.i z0,.f x0,.f y0,.l h4_,.i p4,.f L2,.f r2])):=by
 intro m
 induction m with
 | zero=>intros;rfl
 | succ m ih=>
  intro U1 E1 Y1 k q0 r0 h4 w0 o0 n0
  rw [q0bc]
  refine (q1b9 N U1 E1 Y1 k l0 h0 m0 f0 e0 l3 m3 n3 q0 r0 z0 x0 y0 h4 w0 o0 n0 _ K).trans ?_
  exact congrArg (fun kn=>q0gy none N l0 h0 m0 f0 e0 l3 m3 n3 z0 x0 y0 U1 E1 Y1 k q0 r0 h4 w0 o0 n0 kn (fun m4 n4 o4 i2 j2 h4_ p4 L2 r2=>K (.exit 0) (buildS q1b8 [.n m4,.n n4,.n o4,.n l0,.f h0,.i m0,.f f0,.f e0,.n l3,.n m3,.n n3,.i i2,.i j2,.i z0,.f x0,.f y0,.l h4_,.i p4,.f L2,.f r2]))) (funext fun U1=>funext fun E1=>funext fun Y1=>funext fun k=>funext fun q0=>funext fun r0=>funext fun h4=>funext fun w0=>funext fun o0=>funext fun n0=>ih U1 E1 Y1 k q0 r0 h4 w0 o0 n0)
def q1bb (α:Type)(N:Nat):Env α:=(q1b5 α N).addLoop2 88 5 (loopSum2 ((q1b5 α N).ann 88 5) 1 q1b7 (fun l K=>match l with
  | [.n U1,.n E1,.n Y1,.i k,.n l0,.f h0,.i m0,.f f0,.f e0,.n l3,.n m3,.n n3,.i q0,.i r0,.i z0,.f x0,.f y0,.l h4,.i w0,.f o0,.f n0]=>q0gz none N l0 h0 m0 f0 e0 l3 m3 n3 z0 x0 y0 N U1 E1 Y1 k q0 r0 h4 w0 o0 n0 (fun m4 n4 o4 i2 j2 h4_ p4 L2 r2=>K (.exit 0) (buildS q1b8 [.n m4,.n n4,.n o4,.n l0,.f h0,.i m0,.f f0,.f e0,.n l3,.n m3,.n n3,.i i2,.i j2,.i z0,.f x0,.f y0,.l h4_,.i p4,.f L2,.f r2]))
  | _=>none) ((q1b5 α N).ls 88 5))
theorem q1bc {α:Type}(N:Nat):EnvOk Try.prog (q1bb α N):=(q1b6 N).addLoop2 Try.func88 (by kernel_rfl) (q0ba q0td q0te (q1b6 N) Try.func88 (by kernel_rfl) (d:=1) (ro:=1) fun l K r h=>by
 split at h
 ·exact (q1ba N _ _ _ _ _ _ _ _ _ _ _ K N _ _ _ _ _ _ _ _ _ _).trans h
 ·cases h)
def q1bd:SPat:=⟨[.sliceV 0 0 0 1 false],[[.intsV .u8]]⟩
def q1be:SPat:=⟨[.tuple [.agg [.vals [.int .i64],.ints .u8 8,.ints .u8 8],.sliceV 1 0 0 6 false]],[[.intsV .u8],[.vec .i64]]⟩
theorem q1bf {α:Type}(N o1 j1 q1 l0:Nat)(h0:NI)(K:AV->Heap->Option α):
  callK Try.prog (q1bb α N) 1 88 1 (buildS q1bd [.n o1,.n j1,.n q1,.n l0,.f h0]).t (buildS q1bd [.n o1,.n j1,.n q1,.n l0,.f h0]).h K=q0h0 none N o1 j1 q1 l0 h0 (fun w2 x2 y2 y4 z4 A4 h1_=>retK (buildS q1be [.i w2,.f x2,.f y2,.n y4,.n z4,.n A4,.n l0,.f h0,.l h1_]) K):=by kernel_rfl
def q1bg (α:Type)(N:Nat):Env α:=(q1bb α N).addFun 88 true 1 q1bd (fun l K=>match l with
  | [.n o1,.n j1,.n q1,.n l0,.f h0]=>q0h0 none N o1 j1 q1 l0 h0 (fun w2 x2 y2 y4 z4 A4 h1_=>retK (buildS q1be [.i w2,.f x2,.f y2,.n y4,.n z4,.n A4,.n l0,.f h0,.l h1_]) K)
  | _=>none)
theorem q1bh {α:Type}(N:Nat):EnvOk Try.prog (q1bg α N):=(q1bc N).addFun q0td q0te (d:=1) fun l K r h=>by
 split at h
 ·exact (q1bf N _ _ _ _ _ K).trans h
 ·cases h
def HD89 (α:Type)(N:Nat):Env α:=(q1bg α N).hide 89
theorem q1bi {α:Type}(N:Nat):EnvOk Try.prog (HD89 α N):=(q1bh N).hide
def q1bj:SPat:=⟨[.undef,.undef,.ptr ⟨⟨1,0⟩,0,0,1⟩,.undef,.ptr ⟨⟨2,0⟩,0,0,1⟩,.undef,.undef,.undef,.undef,.undef,.undef,.undef,.sliceV 0 0 0 6 false,.int .i64,.int .i64]++List.replicate 13 .undef,[[.vec .i64],[.vals [.int .i64],.ints .u8 8,.ints .u8 8],[.vals [.int .i64],.ints .u8 8,.ints .u8 8]]⟩
def q1bk:SPat:=⟨[.undef,.undef,.undef,.undef,.ptr ⟨⟨2,0⟩,0,0,1⟩,.intC .i64 5]++List.replicate 22 .undef,[[.vec .i64],[.vals [.int .i64],.ints .u8 8,.ints .u8 8],[.vals [.intC .i64 0],.ints .u8 8,.ints .u8 8]]⟩
def q1bl:SPat:=⟨[.undef,.undef,.ptr ⟨⟨1,0⟩,0,0,1⟩,.undef,.ptr ⟨⟨2,0⟩,0,0,1⟩]++List.replicate 23 .undef,[[.vec .i64],[.vals [.int .i64],.ints .u8 8,.ints .u8 8],[.vals [.int .i64],.ints .u8 8,.ints .u8 8]]⟩
theorem q1bm {α:Type}(N y3 D3 T3:Nat)(z2 B0:Int)(h0:List Int)(m0:Int)(f0 e0:NI)(t0:Int)(q0 r0:NI)(kn:St->Option α)(K:AExit->St->Option α):
  roundK Try.prog (HD89 α N) 1 1 89 Try.f89 4 3 (buildS q1bj [.n y3,.n D3,.n T3,.i z2,.i B0,.l h0,.i m0,.f f0,.f e0,.i t0,.f q0,.f r0]) kn K=q0h1 none N y3 D3 T3 z2 h0 t0 q0 r0 B0 m0 f0 e0 (fun B0 m0 f0 e0=>kn (buildS q1bj [.n y3,.n D3,.n T3,.i z2,.i B0,.l h0,.i m0,.f f0,.f e0,.i t0,.f q0,.f r0])) (fun y1 R0 N0 i2 j2=>K .ret (buildS q1bk [.l h0,.i y1,.f R0,.f N0,.f i2,.f j2])) (fun y1 R0 N0=>K (.exit 0) (buildS q1bl [.l h0,.i y1,.f R0,.f N0,.i t0,.f q0,.f r0])):=by kernel_rfl
theorem q1bn {α:Type}(N y3 D3 T3:Nat)(z2:Int)(h0:List Int)(t0:Int)(q0 r0:NI)(K:AExit->St->Option α):∀ (m:Nat) (B0 m0:Int) (f0 e0:NI),
  loopN (trimSt ((HD89 α N).ann 89 4).head ((HD89 α N).ann 89 4).grow 3) (bodyK Try.prog (HD89 α N) 1 1 89 Try.f89 4) m (buildS q1bj [.n y3,.n D3,.n T3,.i z2,.i B0,.l h0,.i m0,.f f0,.f e0,.i t0,.f q0,.f r0]) (leaveLoop ((HD89 α N).ann 89 4) 3 K)=q0h2 none N y3 D3 T3 z2 h0 t0 q0 r0 m B0 m0 f0 e0 (fun y1 R0 N0 i2 j2=>K .ret (buildS q1bk [.l h0,.i y1,.f R0,.f N0,.f i2,.f j2])) (fun y1 R0 N0=>K (.exit 0) (buildS q1bl [.l h0,.i y1,.f R0,.f N0,.i t0,.f q0,.f r0])):=by
 intro m
 induction m with
 | zero=>intros;rfl
 | succ m ih=>
  intro B0 m0 f0 e0
  rw [q0bc]
  refine (q1bm N y3 D3 T3 z2 B0 h0 m0 f0 e0 t0 q0 r0 _ K).trans ?_
  exact congrArg (fun kn=>q0h1 none N y3 D3 T3 z2 h0 t0 q0 r0 B0 m0 f0 e0 kn (fun y1 R0 N0 i2 j2=>K .ret (buildS q1bk [.l h0,.i y1,.f R0,.f N0,.f i2,.f j2])) (fun y1 R0 N0=>K (.exit 0) (buildS q1bl [.l h0,.i y1,.f R0,.f N0,.i t0,.f q0,.f r0]))) (funext fun B0=>funext fun m0=>funext fun f0=>funext fun e0=>ih B0 m0 f0 e0)
def q1bo (α:Type)(N:Nat):Env α:=(HD89 α N).addLoop2 89 4 (loopSum2 ((HD89 α N).ann 89 4) 1 q1bj (fun l K=>match l with
  | [.n y3,.n D3,.n T3,.i z2,.i B0,.l h0,.i m0,.f f0,.f e0,.i t0,.f q0,.f r0]=>q0h2 none N y3 D3 T3 z2 h0 t0 q0 r0 N B0 m0 f0 e0 (fun y1 R0 N0 i2 j2=>K .ret (buildS q1bk [.l h0,.i y1,.f R0,.f N0,.f i2,.f j2])) (fun y1 R0 N0=>K (.exit 0) (buildS q1bl [.l h0,.i y1,.f R0,.f N0,.i t0,.f q0,.f r0]))
  | _=>none) ((HD89 α N).ls 89 4))
theorem q1bp {α:Type}(N:Nat):EnvOk Try.prog (q1bo α N):=(q1bi N).addLoop2 Try.func89 (by kernel_rfl) (q0ba q0td q0te (q1bi N) Try.func89 (by kernel_rfl) (d:=1) (ro:=1) fun l K r h=>by
 split at h
 ·exact (q1bn N _ _ _ _ _ _ _ _ K N _ _ _ _).trans h
 ·cases h)
def q1bq:SPat:=⟨[.agg [.vals [.int .i64],.ints .u8 8,.ints .u8 8],.sliceV 0 0 0 6 false],[[.vec .i64]]⟩
def q1br:SPat:=⟨[.tuple [.agg [.vals [.int .i64],.ints .u8 8,.ints .u8 8],.int .i64]],[[.vec .i64]]⟩
theorem q1bs {α:Type}(N:Nat)(g0:Int)(i0 j0:NI)(U1 E1 Y1:Nat)(h0:List Int)(K:AV->Heap->Option α):
  callK Try.prog (q1bo α N) 1 89 1 (buildS q1bq [.i g0,.f i0,.f j0,.n U1,.n E1,.n Y1,.l h0]).t (buildS q1bq [.i g0,.f i0,.f j0,.n U1,.n E1,.n Y1,.l h0]).h K=q0h3 none N g0 i0 j0 U1 E1 Y1 h0 (fun w2 x2 y2 C0=>retK (buildS q1br [.i w2,.f x2,.f y2,.i C0,.l h0]) K):=by kernel_rfl
def q1bt (α:Type)(N:Nat):Env α:=(q1bo α N).addFun 89 true 1 q1bq (fun l K=>match l with
  | [.i g0,.f i0,.f j0,.n U1,.n E1,.n Y1,.l h0]=>q0h3 none N g0 i0 j0 U1 E1 Y1 h0 (fun w2 x2 y2 C0=>retK (buildS q1br [.i w2,.f x2,.f y2,.i C0,.l h0]) K)
  | _=>none)
theorem q1bu {α:Type}(N:Nat):EnvOk Try.prog (q1bt α N):=(q1bp N).addFun q0td q0te (d:=1) fun l K r h=>by
 split at h
 ·exact (q1bs N _ _ _ _ _ _ _ K).trans h
 ·cases h
def q1bv (α:Type)(N:Nat):Env α:=(q1bt α N).addAnn 90 4 { head:=[1,2,4,6],grow:=[],out:=[2,4],ret:=[4,5] }
theorem q1bw {α:Type}(N:Nat):EnvOk Try.prog (q1bv α N):=(q1bu N).addAnn
def q1bx:SPat:=⟨[.undef,.sliceV 0 0 0 6 false,.ptr ⟨⟨1,0⟩,0,0,1⟩,.undef,.ptr ⟨⟨2,0⟩,0,0,1⟩,.undef,.int .i64]++List.replicate 25 .undef,[[.vec .i64],[.vals [.int .i64],.ints .u8 8,.ints .u8 8],[.vals [.int .i64],.ints .u8 8,.ints .u8 8]]⟩
def q1by:SPat:=⟨[.undef,.undef,.undef,.undef,.ptr ⟨⟨2,0⟩,0,0,1⟩,.intC .i64 5]++List.replicate 26 .undef,[[.vec .i64],[.vals [.int .i64],.ints .u8 8,.ints .u8 8],[.vals [.intC .i64 0],.ints .u8 8,.ints .u8 8]]⟩
def q1bz:SPat:=⟨[.undef,.undef,.ptr ⟨⟨1,0⟩,0,0,1⟩,.undef,.ptr ⟨⟨2,0⟩,0,0,1⟩]++List.replicate 27 .undef,[[.vec .i64],[.vals [.int .i64],.ints .u8 8,.ints .u8 8],[.vals [.int .i64],.ints .u8 8,.ints .u8 8]]⟩
theorem q1c0 {α:Type}(N U1 E1 Y1:Nat)(k:Int)(h0:List Int)(m0:Int)(f0 e0:NI)(t0:Int)(q0 r0:NI)(kn:St->Option α)(K:AExit->St->Option α):
  roundK Try.prog (q1bv α N) 1 1 90 Try.f90 4 3 (buildS q1bx [.n U1,.n E1,.n Y1,.i k,.l h0,.i m0,.f f0,.f e0,.i t0,.f q0,.f r0]) kn K=q0h4 none N U1 E1 Y1 h0 t0 q0 r0 k m0 f0 e0 (fun k m0 f0 e0=>kn (buildS q1bx [.n U1,.n E1,.n Y1,.i k,.l h0,.i m0,.f f0,.f e0,.i t0,.f q0,.f r0])) (fun y1 R0 N0 i2 j2=>K .ret (buildS q1by [.l h0,.i y1,.f R0,.f N0,.f i2,.f j2])) (fun y1 R0 N0=>K (.exit 0) (buildS q1bz [.l h0,.i y1,.f R0,.f N0,.i t0,.f q0,.f r0])):=by kernel_rfl
theorem q1c1 {α:Type}(N U1 E1 Y1:Nat)(h0:List Int)(t0:Int)(q0 r0:NI)(K:AExit->St->Option α):∀ (m:Nat) (k m0:Int) (f0 e0:NI),
  loopN (trimSt ((q1bv α N).ann 90 4).head ((q1bv α N).ann 90 4).grow 3) (bodyK Try.prog (q1bv α N) 1 1 90 Try.f90 4) m (buildS q1bx [.n U1,.n E1,.n Y1,.i k,.l h0,.i m0,.f f0,.f e0,.i t0,.f q0,.f r0]) (leaveLoop ((q1bv α N).ann 90 4) 3 K)=q0h5 none N U1 E1 Y1 h0 t0 q0 r0 m k m0 f0 e0 (fun y1 R0 N0 i2 j2=>K .ret (buildS q1by [.l h0,.i y1,.f R0,.f N0,.f i2,.f j2])) (fun y1 R0 N0=>K (.exit 0) (buildS q1bz [.l h0,.i y1,.f R0,.f N0,.i t0,.f q0,.f r0])):=by
 intro m
 induction m with
 | zero=>intros;rfl
 | succ m ih=>
  intro k m0 f0 e0
  rw [q0bc]
  refine (q1c0 N U1 E1 Y1 k h0 m0 f0 e0 t0 q0 r0 _ K).trans ?_
  exact congrArg (fun kn=>q0h4 none N U1 E1 Y1 h0 t0 q0 r0 k m0 f0 e0 kn (fun y1 R0 N0 i2 j2=>K .ret (buildS q1by [.l h0,.i y1,.f R0,.f N0,.f i2,.f j2])) (fun y1 R0 N0=>K (.exit 0) (buildS q1bz [.l h0,.i y1,.f R0,.f N0,.i t0,.f q0,.f r0]))) (funext fun k=>funext fun m0=>funext fun f0=>funext fun e0=>ih k m0 f0 e0)
def q1c2 (α:Type)(N:Nat):Env α:=(q1bv α N).addLoop2 90 4 (loopSum2 ((q1bv α N).ann 90 4) 1 q1bx (fun l K=>match l with
  | [.n U1,.n E1,.n Y1,.i k,.l h0,.i m0,.f f0,.f e0,.i t0,.f q0,.f r0]=>q0h5 none N U1 E1 Y1 h0 t0 q0 r0 N k m0 f0 e0 (fun y1 R0 N0 i2 j2=>K .ret (buildS q1by [.l h0,.i y1,.f R0,.f N0,.f i2,.f j2])) (fun y1 R0 N0=>K (.exit 0) (buildS q1bz [.l h0,.i y1,.f R0,.f N0,.i t0,.f q0,.f r0]))
  | _=>none) ((q1bv α N).ls 90 4))
theorem q1c3 {α:Type}(N:Nat):EnvOk Try.prog (q1c2 α N):=(q1bw N).addLoop2 Try.func90 (by kernel_rfl) (q0ba q0td q0te (q1bw N) Try.func90 (by kernel_rfl) (d:=1) (ro:=1) fun l K r h=>by
 split at h
 ·exact (q1c1 N _ _ _ _ _ _ _ K N _ _ _ _).trans h
 ·cases h)
def q1c4:SPat:=⟨[.agg [.vals [.int .i64],.ints .u8 8,.ints .u8 8],.sliceV 0 0 0 6 false],[[.vec .i64]]⟩
def q1c5:SPat:=⟨[.tuple [.agg [.vals [.int .i64],.ints .u8 8,.ints .u8 8],.int .i64]],[[.vec .i64]]⟩
theorem q1c6 {α:Type}(N:Nat)(g0:Int)(i0 j0:NI)(U1 E1 Y1:Nat)(h0:List Int)(K:AV->Heap->Option α):
  callK Try.prog (q1c2 α N) 1 90 1 (buildS q1c4 [.i g0,.f i0,.f j0,.n U1,.n E1,.n Y1,.l h0]).t (buildS q1c4 [.i g0,.f i0,.f j0,.n U1,.n E1,.n Y1,.l h0]).h K=q0h6 none N g0 i0 j0 U1 E1 Y1 h0 (fun w2 x2 y2 C0=>retK (buildS q1c5 [.i w2,.f x2,.f y2,.i C0,.l h0]) K):=by kernel_rfl
def q1c7 (α:Type)(N:Nat):Env α:=(q1c2 α N).addFun 90 true 1 q1c4 (fun l K=>match l with
  | [.i g0,.f i0,.f j0,.n U1,.n E1,.n Y1,.l h0]=>q0h6 none N g0 i0 j0 U1 E1 Y1 h0 (fun w2 x2 y2 C0=>retK (buildS q1c5 [.i w2,.f x2,.f y2,.i C0,.l h0]) K)
  | _=>none)
theorem q1c8 {α:Type}(N:Nat):EnvOk Try.prog (q1c7 α N):=(q1c3 N).addFun q0td q0te (d:=1) fun l K r h=>by
 split at h
 ·exact (q1c6 N _ _ _ _ _ _ _ K).trans h
 ·cases h
def q1c9 (α:Type)(N:Nat):Env α:=(q1c7 α N).addAnn 185 4 { head:=[1,2,5,6,16,17],grow:=[],out:=[1,2,5,6],ret:=[4] }
theorem q1ca {α:Type}(N:Nat):EnvOk Try.prog (q1c9 α N):=(q1c8 N).addAnn
def q1cb:SPat:=⟨[.agg [.ints .i64 6],.ptr ⟨⟨0,0⟩,0,0,1⟩,.ptr ⟨⟨1,0⟩,0,0,1⟩],[[.vals [.int .i64],.ints .u8 8,.ints .u8 8],[.vals [.sliceV 2 0 0 6 false]],[.vec .i64]]⟩
def q1cc:SPat:=⟨[.tuple []],[[.vals [.int .i64],.ints .u8 8,.ints .u8 8],[.vals [.sliceV 2 0 0 6 false]],[.vec .i64]]⟩
theorem q1cd {α:Type}(N:Nat)(m_:NI)(d0:Int)(c0 b0:NI)(d4 v3 f4:Nat)(h2:List Int)(K:AV->Heap->Option α):
  callK Try.prog (q1c9 α N) 1 215 0 (buildS q1cb [.f m_,.i d0,.f c0,.f b0,.n d4,.n v3,.n f4,.l h2]).t (buildS q1cb [.f m_,.i d0,.f c0,.f b0,.n d4,.n v3,.n f4,.l h2]).h K=q0h7 none N m_ d0 c0 b0 d4 v3 f4 h2 (fun B4 C4 D4 h2_=>retK (buildS q1cc [.i d0,.f c0,.f b0,.n B4,.n C4,.n D4,.l h2_]) K):=by kernel_rfl
def q1ce (α:Type)(N:Nat):Env α:=(q1c9 α N).addFun 215 false 0 q1cb (fun l K=>match l with
  | [.f m_,.i d0,.f c0,.f b0,.n d4,.n v3,.n f4,.l h2]=>q0h7 none N m_ d0 c0 b0 d4 v3 f4 h2 (fun B4 C4 D4 h2_=>retK (buildS q1cc [.i d0,.f c0,.f b0,.n B4,.n C4,.n D4,.l h2_]) K)
  | _=>none)
theorem q1cf {α:Type}(N:Nat):EnvOk Try.prog (q1ce α N):=(q1ca N).addFun q0td q0te (d:=1) fun l K r h=>by
 split at h
 ·exact (q1cd N _ _ _ _ _ _ _ _ K).trans h
 ·cases h
def q1cg:SPat:=⟨[.undef,.bool,.ptr ⟨⟨0,0⟩,0,0,1⟩,.undef,.undef,.ptr ⟨⟨2,0⟩,0,0,1⟩,.func 215 [.ptr ⟨⟨0,0⟩,0,0,1⟩,.ptr ⟨⟨2,0⟩,0,0,1⟩],.undef,.undef,.undef,.undef,.undef,.undef,.undef,.undef,.undef,.int .i64,.int .i64]++List.replicate 57 .undef,[[.vals [.int .i64],.ints .u8 8,.ints .u8 8],[.vec .i64],[.vals [.sliceV 1 0 0 6 false]]]⟩
def q1ch:SPat:=⟨[.undef,.bool,.ptr ⟨⟨0,0⟩,0,0,1⟩,.undef,.undef,.ptr ⟨⟨2,0⟩,0,0,1⟩,.func 215 [.ptr ⟨⟨0,0⟩,0,0,1⟩,.ptr ⟨⟨2,0⟩,0,0,1⟩]]++List.replicate 68 .undef,[[.vals [.int .i64],.ints .u8 8,.ints .u8 8],[.vec .i64],[.vals [.sliceV 1 0 0 6 false]]]⟩
theorem q1ci {α:Type}(N:Nat)(t1:Bool)(X0 D1 d0:Int)(c0 b0:NI)(h1:List Int)(S0 T0 U0:Nat)(kn:St->Option α)(K:AExit->St->Option α):
  roundK Try.prog (q1ce α N) 1 0 185 Try.f185 4 3 (buildS q1cg [.b t1,.i X0,.i D1,.i d0,.f c0,.f b0,.l h1,.n S0,.n T0,.n U0]) kn K=q0h8 none N t1 X0 d0 c0 b0 D1 h1 S0 T0 U0 (fun D1 h1 S0 T0 U0=>kn (buildS q1cg [.b t1,.i X0,.i D1,.i d0,.f c0,.f b0,.l h1,.n S0,.n T0,.n U0])) (fun h1_ k2 l2 m2=>K (.exit 0) (buildS q1ch [.b t1,.i d0,.f c0,.f b0,.l h1_,.n k2,.n l2,.n m2])):=by kernel_rfl
theorem q1cj {α:Type}(N:Nat)(t1:Bool)(X0 d0:Int)(c0 b0:NI)(K:AExit->St->Option α):∀ (m:Nat) (D1:Int) (h1:List Int) (S0 T0 U0:Nat),
  loopN (trimSt ((q1ce α N).ann 185 4).head ((q1ce α N).ann 185 4).grow 3) (bodyK Try.prog (q1ce α N) 1 0 185 Try.f185 4) m (buildS q1cg [.b t1,.i X0,.i D1,.i d0,.f c0,.f b0,.l h1,.n S0,.n T0,.n U0]) (leaveLoop ((q1ce α N).ann 185 4) 3 K)=q0h9 none N t1 X0 d0 c0 b0 m D1 h1 S0 T0 U0 (fun h1_ k2 l2 m2=>K (.exit 0) (buildS q1ch [.b t1,.i d0,.f c0,.f b0,.l h1_,.n k2,.n l2,.n m2])):=by
 intro m
 induction m with
 | zero=>intros;rfl
 | succ m ih=>
  intro D1 h1 S0 T0 U0
  rw [q0bc]
  refine (q1ci N t1 X0 D1 d0 c0 b0 h1 S0 T0 U0 _ K).trans ?_
  exact congrArg (fun kn=>q0h8 none N t1 X0 d0 c0 b0 D1 h1 S0 T0 U0 kn (fun h1_ k2 l2 m2=>K (.exit 0) (buildS q1ch [.b t1,.i d0,.f c0,.f b0,.l h1_,.n k2,.n l2,.n m2]))) (funext fun D1=>funext fun h1=>funext fun S0=>funext fun T0=>funext fun U0=>ih D1 h1 S0 T0 U0)
def q1ck (α:Type)(N:Nat):Env α:=(q1ce α N).addLoop2 185 4 (unexBlk 2 (loopSum2 ((q1ce α N).ann 185 4) 0 q1cg (fun l K=>match l with
  | [.b t1,.i X0,.i D1,.i d0,.f c0,.f b0,.l h1,.n S0,.n T0,.n U0]=>q0h9 none N t1 X0 d0 c0 b0 N D1 h1 S0 T0 U0 (fun h1_ k2 l2 m2=>K (.exit 0) (buildS q1ch [.b t1,.i d0,.f c0,.f b0,.l h1_,.n k2,.n l2,.n m2]))
  | _=>none) none))
theorem q1cl {α:Type}(N:Nat):EnvOk Try.prog (q1ck α N):=(q1cf N).addUnex Try.func185 (by kernel_rfl) (q0ba q0td q0te (q1cf N) Try.func185 (by kernel_rfl) (d:=1) (ro:=0) fun l K r h=>by
 split at h
 ·exact (q1cj N _ _ _ _ _ K N _ _ _ _ _).trans h
 ·cases h)
def q1cm (α:Type)(N:Nat):Env α:=(q1ck α N).addAnn 185 9 { head:=[1,2,5,6,26,27],grow:=[],out:=[1,2,5,6],ret:=[4] }
theorem q1cn {α:Type}(N:Nat):EnvOk Try.prog (q1cm α N):=(q1cl N).addAnn
def q1co:SPat:=⟨[.undef,.bool,.ptr ⟨⟨0,0⟩,0,0,1⟩,.undef,.undef,.ptr ⟨⟨2,0⟩,0,0,1⟩,.func 215 [.ptr ⟨⟨0,0⟩,0,0,1⟩,.ptr ⟨⟨2,0⟩,0,0,1⟩],.undef,.undef,.undef,.undef,.undef,.undef,.undef,.undef,.undef,.undef,.undef,.undef,.undef,.undef,.undef,.undef,.undef,.undef,.undef,.int .i64,.int .i64]++List.replicate 47 .undef,[[.vals [.int .i64],.ints .u8 8,.ints .u8 8],[.vec .i64],[.vals [.sliceV 1 0 0 6 false]]]⟩
def q1cp:SPat:=⟨[.undef,.bool,.ptr ⟨⟨0,0⟩,0,0,1⟩,.undef,.undef,.ptr ⟨⟨2,0⟩,0,0,1⟩,.func 215 [.ptr ⟨⟨0,0⟩,0,0,1⟩,.ptr ⟨⟨2,0⟩,0,0,1⟩]]++List.replicate 68 .undef,[[.vals [.int .i64],.ints .u8 8,.ints .u8 8],[.vec .i64],[.vals [.sliceV 1 0 0 6 false]]]⟩
theorem q1cq {α:Type}(N:Nat)(t1:Bool)(P1 w1 d0:Int)(c0 b0:NI)(h1:List Int)(S0 T0 U0:Nat)(kn:St->Option α)(K:AExit->St->Option α):
  roundK Try.prog (q1cm α N) 1 0 185 Try.f185 9 3 (buildS q1co [.b t1,.i P1,.i w1,.i d0,.f c0,.f b0,.l h1,.n S0,.n T0,.n U0]) kn K=q0ha none N t1 P1 d0 c0 b0 w1 h1 S0 T0 U0 (fun w1 h1 S0 T0 U0=>kn (buildS q1co [.b t1,.i P1,.i w1,.i d0,.f c0,.f b0,.l h1,.n S0,.n T0,.n U0])) (fun h1_ k2 l2 m2=>K (.exit 2) (buildS q1cp [.b t1,.i d0,.f c0,.f b0,.l h1_,.n k2,.n l2,.n m2])):=by kernel_rfl
theorem q1cr {α:Type}(N:Nat)(t1:Bool)(P1 d0:Int)(c0 b0:NI)(K:AExit->St->Option α):∀ (m:Nat) (w1:Int) (h1:List Int) (S0 T0 U0:Nat),
  loopN (trimSt ((q1cm α N).ann 185 9).head ((q1cm α N).ann 185 9).grow 3) (bodyK Try.prog (q1cm α N) 1 0 185 Try.f185 9) m (buildS q1co [.b t1,.i P1,.i w1,.i d0,.f c0,.f b0,.l h1,.n S0,.n T0,.n U0]) (leaveLoop ((q1cm α N).ann 185 9) 3 K)=q0hb none N t1 P1 d0 c0 b0 m w1 h1 S0 T0 U0 (fun h1_ k2 l2 m2=>K (.exit 2) (buildS q1cp [.b t1,.i d0,.f c0,.f b0,.l h1_,.n k2,.n l2,.n m2])):=by
 intro m
 induction m with
 | zero=>intros;rfl
 | succ m ih=>
  intro w1 h1 S0 T0 U0
  rw [q0bc]
  refine (q1cq N t1 P1 w1 d0 c0 b0 h1 S0 T0 U0 _ K).trans ?_
  exact congrArg (fun kn=>q0ha none N t1 P1 d0 c0 b0 w1 h1 S0 T0 U0 kn (fun h1_ k2 l2 m2=>K (.exit 2) (buildS q1cp [.b t1,.i d0,.f c0,.f b0,.l h1_,.n k2,.n l2,.n m2]))) (funext fun w1=>funext fun h1=>funext fun S0=>funext fun T0=>funext fun U0=>ih w1 h1 S0 T0 U0)
def q1cs (α:Type)(N:Nat):Env α:=(q1cm α N).addLoop2 185 9 (loopSum2 ((q1cm α N).ann 185 9) 0 q1co (fun l K=>match l with
  | [.b t1,.i P1,.i w1,.i d0,.f c0,.f b0,.l h1,.n S0,.n T0,.n U0]=>q0hb none N t1 P1 d0 c0 b0 N w1 h1 S0 T0 U0 (fun h1_ k2 l2 m2=>K (.exit 2) (buildS q1cp [.b t1,.i d0,.f c0,.f b0,.l h1_,.n k2,.n l2,.n m2]))
  | _=>none) ((q1cm α N).ls 185 9))
theorem q1ct {α:Type}(N:Nat):EnvOk Try.prog (q1cs α N):=(q1cn N).addLoop2 Try.func185 (by kernel_rfl) (q0ba q0td q0te (q1cn N) Try.func185 (by kernel_rfl) (d:=1) (ro:=0) fun l K r h=>by
 split at h
 ·exact (q1cr N _ _ _ _ _ K N _ _ _ _ _).trans h
 ·cases h)
def q1cu (α:Type)(N:Nat):Env α:=(q1cs α N).addAnn 185 14 { head:=[1,2,5,6,36,37],grow:=[],out:=[2,5,6],ret:=[4] }
theorem q1cv {α:Type}(N:Nat):EnvOk Try.prog (q1cu α N):=(q1ct N).addAnn
def q1cw (α:Type)(N:Nat):Env α:=(q1cu α N).addAnn 185 17 { head:=[1,2,5,6,9,36,37,40],grow:=[],out:=[1,2,5,6,36,37],ret:=[4] }
theorem q1cx {α:Type}(N:Nat):EnvOk Try.prog (q1cw α N):=(q1cv N).addAnn
def q1cy:SPat:=⟨[.undef,.bool,.ptr ⟨⟨0,0⟩,0,0,1⟩,.undef,.undef,.ptr ⟨⟨2,0⟩,0,0,1⟩,.func 215 [.ptr ⟨⟨0,0⟩,0,0,1⟩,.ptr ⟨⟨2,0⟩,0,0,1⟩],.undef,.undef,.int .i64,.undef,.undef,.undef,.undef,.undef,.undef,.undef,.undef,.undef,.undef,.undef,.undef,.undef,.undef,.undef,.undef,.undef,.undef,.undef,.undef,.undef,.undef,.undef,.undef,.undef,.undef,.int .i64,.int .i64,.undef,.undef,.int .i64]++List.replicate 34 .undef,[[.vals [.int .i64],.ints .u8 8,.ints .u8 8],[.vec .i64],[.vals [.sliceV 1 0 0 6 false]]]⟩
def q1cz:SPat:=⟨[.undef,.bool,.ptr ⟨⟨0,0⟩,0,0,1⟩,.undef,.undef,.ptr ⟨⟨2,0⟩,0,0,1⟩,.func 215 [.ptr ⟨⟨0,0⟩,0,0,1⟩,.ptr ⟨⟨2,0⟩,0,0,1⟩],.undef,.undef,.undef,.undef,.undef,.undef,.undef,.undef,.undef,.undef,.undef,.undef,.undef,.undef,.undef,.undef,.undef,.undef,.undef,.undef,.undef,.undef,.undef,.undef,.undef,.undef,.undef,.undef,.undef,.int .i64,.int .i64]++List.replicate 37 .undef,[[.vals [.int .i64],.ints .u8 8,.ints .u8 8],[.vec .i64],[.vals [.sliceV 1 0 0 6 false]]]⟩
theorem q1d0 {α:Type}(N:Nat)(t1:Bool)(t9 C2 n2 i1 d0:Int)(c0 b0:NI)(h1:List Int)(S0 T0 U0:Nat)(kn:St->Option α)(K:AExit->St->Option α):
  roundK Try.prog (q1cw α N) 1 0 185 Try.f185 17 3 (buildS q1cy [.b t1,.i t9,.i C2,.i n2,.i i1,.i d0,.f c0,.f b0,.l h1,.n S0,.n T0,.n U0]) kn K=q0hc none N t1 t9 C2 n2 d0 c0 b0 i1 h1 S0 T0 U0 (fun i1 h1 S0 T0 U0=>kn (buildS q1cy [.b t1,.i t9,.i C2,.i n2,.i i1,.i d0,.f c0,.f b0,.l h1,.n S0,.n T0,.n U0])) (fun h1_ k2 l2 m2=>K (.exit 6) (buildS q1cz [.b t1,.i C2,.i n2,.i d0,.f c0,.f b0,.l h1_,.n k2,.n l2,.n m2])):=by kernel_rfl
theorem q1d1 {α:Type}(N:Nat)(t1:Bool)(t9 C2 n2 d0:Int)(c0 b0:NI)(K:AExit->St->Option α):∀ (m:Nat) (i1:Int) (h1:List Int) (S0 T0 U0:Nat),
  loopN (trimSt ((q1cw α N).ann 185 17).head ((q1cw α N).ann 185 17).grow 3) (bodyK Try.prog (q1cw α N) 1 0 185 Try.f185 17) m (buildS q1cy [.b t1,.i t9,.i C2,.i n2,.i i1,.i d0,.f c0,.f b0,.l h1,.n S0,.n T0,.n U0]) (leaveLoop ((q1cw α N).ann 185 17) 3 K)=q0hd none N t1 t9 C2 n2 d0 c0 b0 m i1 h1 S0 T0 U0 (fun h1_ k2 l2 m2=>K (.exit 6) (buildS q1cz [.b t1,.i C2,.i n2,.i d0,.f c0,.f b0,.l h1_,.n k2,.n l2,.n m2])):=by
 intro m
 induction m with
 | zero=>intros;rfl
 | succ m ih=>
  intro i1 h1 S0 T0 U0
  rw [q0bc]
  refine (q1d0 N t1 t9 C2 n2 i1 d0 c0 b0 h1 S0 T0 U0 _ K).trans ?_
  exact congrArg (fun kn=>q0hc none N t1 t9 C2 n2 d0 c0 b0 i1 h1 S0 T0 U0 kn (fun h1_ k2 l2 m2=>K (.exit 6) (buildS q1cz [.b t1,.i C2,.i n2,.i d0,.f c0,.f b0,.l h1_,.n k2,.n l2,.n m2]))) (funext fun i1=>funext fun h1=>funext fun S0=>funext fun T0=>funext fun U0=>ih i1 h1 S0 T0 U0)
def q1d2 (α:Type)(N:Nat):Env α:=(q1cw α N).addLoop2 185 17 (loopSum2 ((q1cw α N).ann 185 17) 0 q1cy (fun l K=>match l with
  | [.b t1,.i t9,.i C2,.i n2,.i i1,.i d0,.f c0,.f b0,.l h1,.n S0,.n T0,.n U0]=>q0hd none N t1 t9 C2 n2 d0 c0 b0 N i1 h1 S0 T0 U0 (fun h1_ k2 l2 m2=>K (.exit 6) (buildS q1cz [.b t1,.i C2,.i n2,.i d0,.f c0,.f b0,.l h1_,.n k2,.n l2,.n m2]))
  | _=>none) ((q1cw α N).ls 185 17))
theorem q1d3 {α:Type}(N:Nat):EnvOk Try.prog (q1d2 α N):=(q1cx N).addLoop2 Try.func185 (by kernel_rfl) (q0ba q0td q0te (q1cx N) Try.func185 (by kernel_rfl) (d:=1) (ro:=0) fun l K r h=>by
 split at h
 ·exact (q1d1 N _ _ _ _ _ _ _ K N _ _ _ _ _).trans h
 ·cases h)
def q1d4:SPat:=⟨[.undef,.bool,.ptr ⟨⟨0,0⟩,0,0,1⟩,.undef,.undef,.ptr ⟨⟨2,0⟩,0,0,1⟩,.func 215 [.ptr ⟨⟨0,0⟩,0,0,1⟩,.ptr ⟨⟨2,0⟩,0,0,1⟩],.undef,.undef,.undef,.undef,.undef,.undef,.undef,.undef,.undef,.undef,.undef,.undef,.undef,.undef,.undef,.undef,.undef,.undef,.undef,.undef,.undef,.undef,.undef,.undef,.undef,.undef,.undef,.undef,.undef,.int .i64,.int .i64]++List.replicate 37 .undef,[[.vals [.int .i64],.ints .u8 8,.ints .u8 8],[.vec .i64],[.vals [.sliceV 1 0 0 6 false]]]⟩
def q1d5:SPat:=⟨[.undef,.undef,.ptr ⟨⟨0,0⟩,0,0,1⟩,.undef,.undef,.ptr ⟨⟨2,0⟩,0,0,1⟩,.func 215 [.ptr ⟨⟨0,0⟩,0,0,1⟩,.ptr ⟨⟨2,0⟩,0,0,1⟩]]++List.replicate 68 .undef,[[.vals [.int .i64],.ints .u8 8,.ints .u8 8],[.vec .i64],[.vals [.sliceV 1 0 0 6 false]]]⟩
theorem q1d6 {α:Type}(N:Nat)(t1:Bool)(C2 n2 d0:Int)(c0 b0:NI)(h1:List Int)(S0 T0 U0:Nat)(kn:St->Option α)(K:AExit->St->Option α):
  roundK Try.prog (q1d2 α N) 1 0 185 Try.f185 14 3 (buildS q1d4 [.b t1,.i C2,.i n2,.i d0,.f c0,.f b0,.l h1,.n S0,.n T0,.n U0]) kn K=q0he none N t1 C2 d0 c0 b0 n2 h1 S0 T0 U0 (fun n2 h1 S0 T0 U0=>kn (buildS q1d4 [.b t1,.i C2,.i n2,.i d0,.f c0,.f b0,.l h1,.n S0,.n T0,.n U0])) (fun h1_ k2 l2 m2=>K (.exit 4) (buildS q1d5 [.i d0,.f c0,.f b0,.l h1_,.n k2,.n l2,.n m2])):=by kernel_rfl
theorem q1d7 {α:Type}(N:Nat)(t1:Bool)(C2 d0:Int)(c0 b0:NI)(K:AExit->St->Option α):∀ (m:Nat) (n2:Int) (h1:List Int) (S0 T0 U0:Nat),
  loopN (trimSt ((q1d2 α N).ann 185 14).head ((q1d2 α N).ann 185 14).grow 3) (bodyK Try.prog (q1d2 α N) 1 0 185 Try.f185 14) m (buildS q1d4 [.b t1,.i C2,.i n2,.i d0,.f c0,.f b0,.l h1,.n S0,.n T0,.n U0]) (leaveLoop ((q1d2 α N).ann 185 14) 3 K)=q0hf none N t1 C2 d0 c0 b0 m n2 h1 S0 T0 U0 (fun h1_ k2 l2 m2=>K (.exit 4) (buildS q1d5 [.i d0,.f c0,.f b0,.l h1_,.n k2,.n l2,.n m2])):=by
 intro m
 induction m with
 | zero=>intros;rfl
 | succ m ih=>
  intro n2 h1 S0 T0 U0
  rw [q0bc]
  refine (q1d6 N t1 C2 n2 d0 c0 b0 h1 S0 T0 U0 _ K).trans ?_
  exact congrArg (fun kn=>q0he none N t1 C2 d0 c0 b0 n2 h1 S0 T0 U0 kn (fun h1_ k2 l2 m2=>K (.exit 4) (buildS q1d5 [.i d0,.f c0,.f b0,.l h1_,.n k2,.n l2,.n m2]))) (funext fun n2=>funext fun h1=>funext fun S0=>funext fun T0=>funext fun U0=>ih n2 h1 S0 T0 U0)
def q1d8 (α:Type)(N:Nat):Env α:=(q1d2 α N).addLoop2 185 14 (loopSum2 ((q1d2 α N).ann 185 14) 0 q1d4 (fun l K=>match l with
  | [.b t1,.i C2,.i n2,.i d0,.f c0,.f b0,.l h1,.n S0,.n T0,.n U0]=>q0hf none N t1 C2 d0 c0 b0 N n2 h1 S0 T0 U0 (fun h1_ k2 l2 m2=>K (.exit 4) (buildS q1d5 [.i d0,.f c0,.f b0,.l h1_,.n k2,.n l2,.n m2]))
  | _=>none) ((q1d2 α N).ls 185 14))
theorem q1d9 {α:Type}(N:Nat):EnvOk Try.prog (q1d8 α N):=(q1d3 N).addLoop2 Try.func185 (by kernel_rfl) (q0ba q0td q0te (q1d3 N) Try.func185 (by kernel_rfl) (d:=1) (ro:=0) fun l K r h=>by
 split at h
 ·exact (q1d7 N _ _ _ _ _ K N _ _ _ _ _).trans h
 ·cases h)
def q1da (α:Type)(N:Nat):Env α:=(q1d8 α N).addAnn 185 24 { head:=[2,5,6,58,59],grow:=[],out:=[5],ret:=[4] }
theorem q1db {α:Type}(N:Nat):EnvOk Try.prog (q1da α N):=(q1d9 N).addAnn
def q1dc (α:Type)(N:Nat):Env α:=(q1da α N).addAnn 185 27 { head:=[2,5,6,11,58,59,63,64],grow:=[],out:=[2,5,6,58,59],ret:=[4] }
theorem q1dd {α:Type}(N:Nat):EnvOk Try.prog (q1dc α N):=(q1db N).addAnn
def q1de:SPat:=⟨[.undef,.undef,.ptr ⟨⟨0,0⟩,0,0,1⟩,.undef,.undef,.ptr ⟨⟨2,0⟩,0,0,1⟩,.func 215 [.ptr ⟨⟨0,0⟩,0,0,1⟩,.ptr ⟨⟨2,0⟩,0,0,1⟩],.undef,.undef,.undef,.undef,.int .i64,.undef,.undef,.undef,.undef,.undef,.undef,.undef,.undef,.undef,.undef,.undef,.undef,.undef,.undef,.undef,.undef,.undef,.undef,.undef,.undef,.undef,.undef,.undef,.undef,.undef,.undef,.undef,.undef,.undef,.undef,.undef,.undef,.undef,.undef,.undef,.undef,.undef,.undef,.undef,.undef,.undef,.undef,.undef,.undef,.undef,.undef,.int .i64,.int .i64,.undef,.undef,.undef,.int .i64,.int .i64]++List.replicate 10 .undef,[[.vals [.int .i64],.ints .u8 8,.ints .u8 8],[.vec .i64],[.vals [.sliceV 1 0 0 6 false]]]⟩
def q1df:SPat:=⟨[.undef,.undef,.ptr ⟨⟨0,0⟩,0,0,1⟩,.undef,.undef,.ptr ⟨⟨2,0⟩,0,0,1⟩,.func 215 [.ptr ⟨⟨0,0⟩,0,0,1⟩,.ptr ⟨⟨2,0⟩,0,0,1⟩],.undef,.undef,.undef,.undef,.undef,.undef,.undef,.undef,.undef,.undef,.undef,.undef,.undef,.undef,.undef,.undef,.undef,.undef,.undef,.undef,.undef,.undef,.undef,.undef,.undef,.undef,.undef,.undef,.undef,.undef,.undef,.undef,.undef,.undef,.undef,.undef,.undef,.undef,.undef,.undef,.undef,.undef,.undef,.undef,.undef,.undef,.undef,.undef,.undef,.undef,.undef,.int .i64,.int .i64]++List.replicate 15 .undef,[[.vals [.int .i64],.ints .u8 8,.ints .u8 8],[.vec .i64],[.vals [.sliceV 1 0 0 6 false]]]⟩
theorem q1dg {α:Type}(N:Nat)(V0 D2 o2 E3 Z2 d0:Int)(c0 b0:NI)(h1:List Int)(S0 T0 U0:Nat)(kn:St->Option α)(K:AExit->St->Option α):
  roundK Try.prog (q1dc α N) 1 0 185 Try.f185 27 3 (buildS q1de [.i V0,.i D2,.i o2,.i E3,.i Z2,.i d0,.f c0,.f b0,.l h1,.n S0,.n T0,.n U0]) kn K=q0hg none N V0 D2 o2 E3 d0 c0 b0 Z2 h1 S0 T0 U0 (fun Z2 h1 S0 T0 U0=>kn (buildS q1de [.i V0,.i D2,.i o2,.i E3,.i Z2,.i d0,.f c0,.f b0,.l h1,.n S0,.n T0,.n U0])) (fun h1_ k2 l2 m2=>K (.exit 10) (buildS q1df [.i D2,.i o2,.i d0,.f c0,.f b0,.l h1_,.n k2,.n l2,.n m2])):=by kernel_rfl
theorem q1dh {α:Type}(N:Nat)(V0 D2 o2 E3 d0:Int)(c0 b0:NI)(K:AExit->St->Option α):∀ (m:Nat) (Z2:Int) (h1:List Int) (S0 T0 U0:Nat),
  loopN (trimSt ((q1dc α N).ann 185 27).head ((q1dc α N).ann 185 27).grow 3) (bodyK Try.prog (q1dc α N) 1 0 185 Try.f185 27) m (buildS q1de [.i V0,.i D2,.i o2,.i E3,.i Z2,.i d0,.f c0,.f b0,.l h1,.n S0,.n T0,.n U0]) (leaveLoop ((q1dc α N).ann 185 27) 3 K)=q0hh none N V0 D2 o2 E3 d0 c0 b0 m Z2 h1 S0 T0 U0 (fun h1_ k2 l2 m2=>K (.exit 10) (buildS q1df [.i D2,.i o2,.i d0,.f c0,.f b0,.l h1_,.n k2,.n l2,.n m2])):=by
 intro m
 induction m with
 | zero=>intros;rfl
 | succ m ih=>
  intro Z2 h1 S0 T0 U0
  rw [q0bc]
  refine (q1dg N V0 D2 o2 E3 Z2 d0 c0 b0 h1 S0 T0 U0 _ K).trans ?_
  exact congrArg (fun kn=>q0hg none N V0 D2 o2 E3 d0 c0 b0 Z2 h1 S0 T0 U0 kn (fun h1_ k2 l2 m2=>K (.exit 10) (buildS q1df [.i D2,.i o2,.i d0,.f c0,.f b0,.l h1_,.n k2,.n l2,.n m2]))) (funext fun Z2=>funext fun h1=>funext fun S0=>funext fun T0=>funext fun U0=>ih Z2 h1 S0 T0 U0)
def q1di (α:Type)(N:Nat):Env α:=(q1dc α N).addLoop2 185 27 (loopSum2 ((q1dc α N).ann 185 27) 0 q1de (fun l K=>match l with
  | [.i V0,.i D2,.i o2,.i E3,.i Z2,.i d0,.f c0,.f b0,.l h1,.n S0,.n T0,.n U0]=>q0hh none N V0 D2 o2 E3 d0 c0 b0 N Z2 h1 S0 T0 U0 (fun h1_ k2 l2 m2=>K (.exit 10) (buildS q1df [.i D2,.i o2,.i d0,.f c0,.f b0,.l h1_,.n k2,.n l2,.n m2]))
  | _=>none) ((q1dc α N).ls 185 27))
theorem q1dj {α:Type}(N:Nat):EnvOk Try.prog (q1di α N):=(q1dd N).addLoop2 Try.func185 (by kernel_rfl) (q0ba q0td q0te (q1dd N) Try.func185 (by kernel_rfl) (d:=1) (ro:=0) fun l K r h=>by
 split at h
 ·exact (q1dh N _ _ _ _ _ _ _ K N _ _ _ _ _).trans h
 ·cases h)
def q1dk:SPat:=⟨[.undef,.undef,.ptr ⟨⟨0,0⟩,0,0,1⟩,.undef,.undef,.ptr ⟨⟨2,0⟩,0,0,1⟩,.func 215 [.ptr ⟨⟨0,0⟩,0,0,1⟩,.ptr ⟨⟨2,0⟩,0,0,1⟩],.undef,.undef,.undef,.undef,.undef,.undef,.undef,.undef,.undef,.undef,.undef,.undef,.undef,.undef,.undef,.undef,.undef,.undef,.undef,.undef,.undef,.undef,.undef,.undef,.undef,.undef,.undef,.undef,.undef,.undef,.undef,.undef,.undef,.undef,.undef,.undef,.undef,.undef,.undef,.undef,.undef,.undef,.undef,.undef,.undef,.undef,.undef,.undef,.undef,.undef,.undef,.int .i64,.int .i64]++List.replicate 15 .undef,[[.vals [.int .i64],.ints .u8 8,.ints .u8 8],[.vec .i64],[.vals [.sliceV 1 0 0 6 false]]]⟩
def q1dl:SPat:=⟨[.undef,.undef,.undef,.undef,.undef,.ptr ⟨⟨2,0⟩,0,0,1⟩]++List.replicate 69 .undef,[[.vals [.int .i64],.ints .u8 8,.ints .u8 8],[.vec .i64],[.vals [.sliceV 1 0 0 6 false]]]⟩
theorem q1dm {α:Type}(N:Nat)(D2 o2 d0:Int)(c0 b0:NI)(h1:List Int)(S0 T0 U0:Nat)(kn:St->Option α)(K:AExit->St->Option α):
  roundK Try.prog (q1di α N) 1 0 185 Try.f185 24 3 (buildS q1dk [.i D2,.i o2,.i d0,.f c0,.f b0,.l h1,.n S0,.n T0,.n U0]) kn K=q0hi none N D2 d0 c0 b0 o2 h1 S0 T0 U0 (fun o2 h1 S0 T0 U0=>kn (buildS q1dk [.i D2,.i o2,.i d0,.f c0,.f b0,.l h1,.n S0,.n T0,.n U0])) (fun h1_ k2 l2 m2=>K (.exit 8) (buildS q1dl [.i d0,.f c0,.f b0,.l h1_,.n k2,.n l2,.n m2])):=by kernel_rfl
theorem q1dn {α:Type}(N:Nat)(D2 d0:Int)(c0 b0:NI)(K:AExit->St->Option α):∀ (m:Nat) (o2:Int) (h1:List Int) (S0 T0 U0:Nat),
  loopN (trimSt ((q1di α N).ann 185 24).head ((q1di α N).ann 185 24).grow 3) (bodyK Try.prog (q1di α N) 1 0 185 Try.f185 24) m (buildS q1dk [.i D2,.i o2,.i d0,.f c0,.f b0,.l h1,.n S0,.n T0,.n U0]) (leaveLoop ((q1di α N).ann 185 24) 3 K)=q0hj none N D2 d0 c0 b0 m o2 h1 S0 T0 U0 (fun h1_ k2 l2 m2=>K (.exit 8) (buildS q1dl [.i d0,.f c0,.f b0,.l h1_,.n k2,.n l2,.n m2])):=by
 intro m
 induction m with
 | zero=>intros;rfl
 | succ m ih=>
  intro o2 h1 S0 T0 U0
  rw [q0bc]
  refine (q1dm N D2 o2 d0 c0 b0 h1 S0 T0 U0 _ K).trans ?_
  exact congrArg (fun kn=>q0hi none N D2 d0 c0 b0 o2 h1 S0 T0 U0 kn (fun h1_ k2 l2 m2=>K (.exit 8) (buildS q1dl [.i d0,.f c0,.f b0,.l h1_,.n k2,.n l2,.n m2]))) (funext fun o2=>funext fun h1=>funext fun S0=>funext fun T0=>funext fun U0=>ih o2 h1 S0 T0 U0)
def q1do (α:Type)(N:Nat):Env α:=(q1di α N).addLoop2 185 24 (loopSum2 ((q1di α N).ann 185 24) 0 q1dk (fun l K=>match l with
  | [.i D2,.i o2,.i d0,.f c0,.f b0,.l h1,.n S0,.n T0,.n U0]=>q0hj none N D2 d0 c0 b0 N o2 h1 S0 T0 U0 (fun h1_ k2 l2 m2=>K (.exit 8) (buildS q1dl [.i d0,.f c0,.f b0,.l h1_,.n k2,.n l2,.n m2]))
  | _=>none) ((q1di α N).ls 185 24))
theorem q1dp {α:Type}(N:Nat):EnvOk Try.prog (q1do α N):=(q1dj N).addLoop2 Try.func185 (by kernel_rfl) (q0ba q0td q0te (q1dj N) Try.func185 (by kernel_rfl) (d:=1) (ro:=0) fun l K r h=>by
 split at h
 ·exact (q1dn N _ _ _ _ K N _ _ _ _ _).trans h
 ·cases h)
def q1dq:SPat:=⟨[.agg [.vals [.int .i64],.ints .u8 8,.ints .u8 8],.bool],[]⟩
def q1dr:SPat:=⟨[.sliceV 0 0 0 6 false],[[.vec .i64]]⟩
theorem q1ds {α:Type}(N:Nat)(g0:Int)(i0 j0:NI)(a1:Bool)(K:AV->Heap->Option α):
  callK Try.prog (q1do α N) 1 185 0 (buildS q1dq [.i g0,.f i0,.f j0,.b a1]).t (buildS q1dq [.i g0,.f i0,.f j0,.b a1]).h K=q0hk none N g0 i0 j0 a1 (fun b3 c3 d3 h0_=>retK (buildS q1dr [.n b3,.n c3,.n d3,.l h0_]) K):=by kernel_rfl
def q1dt (α:Type)(N:Nat):Env α:=(q1do α N).addFun 185 true 0 q1dq (fun l K=>match l with
  | [.i g0,.f i0,.f j0,.b a1]=>q0hk none N g0 i0 j0 a1 (fun b3 c3 d3 h0_=>retK (buildS q1dr [.n b3,.n c3,.n d3,.l h0_]) K)
  | _=>none)
theorem q1du {α:Type}(N:Nat):EnvOk Try.prog (q1dt α N):=(q1dp N).addFun q0td q0te (d:=1) fun l K r h=>by
 split at h
 ·exact (q1ds N _ _ _ _ K).trans h
 ·cases h
def q1dv:SPat:=⟨[.agg [.vals [.int .i64],.ints .u8 8,.ints .u8 8]],[]⟩
def q1dw:SPat:=⟨[.sliceV 0 0 0 6 false],[[.vec .i64]]⟩
theorem q1dx {α:Type}(N:Nat)(g0:Int)(i0 j0:NI)(K:AV->Heap->Option α):
  callK Try.prog (q1dt α N) 1 184 0 (buildS q1dv [.i g0,.f i0,.f j0]).t (buildS q1dv [.i g0,.f i0,.f j0]).h K=q0hl none N g0 i0 j0 (fun b3 c3 d3 h0_=>retK (buildS q1dw [.n b3,.n c3,.n d3,.l h0_]) K):=by kernel_rfl
def q1dy (α:Type)(N:Nat):Env α:=(q1dt α N).addFun 184 true 0 q1dv (fun l K=>match l with
  | [.i g0,.f i0,.f j0]=>q0hl none N g0 i0 j0 (fun b3 c3 d3 h0_=>retK (buildS q1dw [.n b3,.n c3,.n d3,.l h0_]) K)
  | _=>none)
theorem q1dz {α:Type}(N:Nat):EnvOk Try.prog (q1dy α N):=(q1du N).addFun q0td q0te (d:=1) fun l K r h=>by
 split at h
 ·exact (q1dx N _ _ _ K).trans h
 ·cases h
def q1e0:SPat:=⟨[.agg [.vals [.int .i64],.ints .u8 8,.ints .u8 8],.func 184 []],[]⟩
def q1e1:SPat:=⟨[.tuple [.nils,.int .i64]],[]⟩
def q1e2:SPat:=⟨[.tuple [.sliceV 0 0 0 6 false,.int .i64]],[[.vec .i64]]⟩
theorem q1e3 {α:Type}(N:Nat)(g0:Int)(i0 j0:NI)(K:AV->Heap->Option α):
  callK Try.prog (q1dy α N) 1 183 0 (buildS q1e0 [.i g0,.f i0,.f j0]).t (buildS q1e0 [.i g0,.f i0,.f j0]).h K=q0hm none N g0 i0 j0 (fun C0=>retK (buildS q1e1 [.i C0]) K) (fun Q2 R2 S2 C0 h0_=>retK (buildS q1e2 [.n Q2,.n R2,.n S2,.i C0,.l h0_]) K):=by kernel_rfl
def q1e4 (α:Type)(N:Nat):Env α:=(q1dy α N).addFun 183 true 0 q1e0 (fun l K=>match l with
  | [.i g0,.f i0,.f j0]=>q0hm none N g0 i0 j0 (fun C0=>retK (buildS q1e1 [.i C0]) K) (fun Q2 R2 S2 C0 h0_=>retK (buildS q1e2 [.n Q2,.n R2,.n S2,.i C0,.l h0_]) K)
  | _=>none)
theorem q1e5 {α:Type}(N:Nat):EnvOk Try.prog (q1e4 α N):=(q1dz N).addFun q0td q0te (d:=1) fun l K r h=>by
 split at h
 ·exact (q1e3 N _ _ _ K).trans h
 ·cases h
def q1e6:SPat:=⟨[.agg [.vals [.int .i64],.ints .u8 8,.ints .u8 8]],[]⟩
def q1e7:SPat:=⟨[.tuple [.sliceV 0 0 0 6 false,.int .i64]],[[.vec .i64]]⟩
theorem q1e8 {α:Type}(N:Nat)(g0:Int)(i0 j0:NI)(K:AV->Heap->Option α):
  (normRes .i64 6 (callK Try.prog (q1e4 α N) 1 85)) 0 (buildS q1e6 [.i g0,.f i0,.f j0]).t (buildS q1e6 [.i g0,.f i0,.f j0]).h K=q0hn none N g0 i0 j0 (fun Q2 R2 S2 C0 h0_=>retK (buildS q1e7 [.n Q2,.n R2,.n S2,.i C0,.l h0_]) K):=by kernel_rfl
def q1e9 (α:Type)(N:Nat):Env α:=(q1e4 α N).addFun 85 true 0 q1e6 (fun l K=>match l with
  | [.i g0,.f i0,.f j0]=>q0hn none N g0 i0 j0 (fun Q2 R2 S2 C0 h0_=>retK (buildS q1e7 [.n Q2,.n R2,.n S2,.i C0,.l h0_]) K)
  | _=>none)
theorem q1ea {α:Type}(N:Nat):EnvOk Try.prog (q1e9 α N):=(q1e5 N).addFunN q0td q0te (d:=1) fun l K r h=>by
 split at h
 ·exact (q1e8 N _ _ _ K).trans h
 ·cases h
def q1eb:SPat:=⟨[.agg [.vals [.int .i64],.ints .u8 8,.ints .u8 8]],[]⟩
def q1ec:SPat:=⟨[.tuple [.sliceV 0 0 0 6 false,.int .i64]],[[.vec .i64]]⟩
theorem q1ed {α:Type}(N:Nat)(g0:Int)(i0 j0:NI)(K:AV->Heap->Option α):
  (normRes .i64 6 (callK Try.prog (q1e9 α N) 1 86)) 0 (buildS q1eb [.i g0,.f i0,.f j0]).t (buildS q1eb [.i g0,.f i0,.f j0]).h K=q0ho none N g0 i0 j0 (fun Q2 R2 S2 C0 h0_=>retK (buildS q1ec [.n Q2,.n R2,.n S2,.i C0,.l h0_]) K):=by kernel_rfl
def q1ee (α:Type)(N:Nat):Env α:=(q1e9 α N).addFun 86 true 0 q1eb (fun l K=>match l with
  | [.i g0,.f i0,.f j0]=>q0ho none N g0 i0 j0 (fun Q2 R2 S2 C0 h0_=>retK (buildS q1ec [.n Q2,.n R2,.n S2,.i C0,.l h0_]) K)
  | _=>none)
theorem q1ef {α:Type}(N:Nat):EnvOk Try.prog (q1ee α N):=(q1ea N).addFunN q0td q0te (d:=1) fun l K r h=>by
 split at h
 ·exact (q1ed N _ _ _ K).trans h
 ·cases h
def q1eg (α:Type)(N:Nat):Env α:=(q1ee α N).addAnn 87 4 { head:=[0,1,5],grow:=[],out:=[],ret:=[4] }
theorem q1eh {α:Type}(N:Nat):EnvOk Try.prog (q1eg α N):=(q1ef N).addAnn
def q1ei:SPat:=⟨[.sliceV 0 0 0 6 false,.sliceV 1 0 0 6 false,.undef,.undef,.undef,.int .i64]++List.replicate 20 .undef,[[.vec .i64],[.vec .i64]]⟩
def q1ej:SPat:=⟨[.undef,.undef,.undef,.undef,.boolC false]++List.replicate 21 .undef,[[.vec .i64],[.vec .i64]]⟩
def q1ek:SPat:=⟨[]++List.replicate 26 .undef,[[.vec .i64],[.vec .i64]]⟩
theorem q1el {α:Type}(N X2 P2 f3 Y2 V2 g3:Nat)(i:Int)(h0 h1:List Int)(kn:St->Option α)(K:AExit->St->Option α):
  roundK Try.prog (q1eg α N) 1 2 87 Try.f87 4 2 (buildS q1ei [.n X2,.n P2,.n f3,.n Y2,.n V2,.n g3,.i i,.l h0,.l h1]) kn K=q0hp none X2 P2 f3 Y2 V2 g3 h0 h1 i (fun i=>kn (buildS q1ei [.n X2,.n P2,.n f3,.n Y2,.n V2,.n g3,.i i,.l h0,.l h1])) (K .ret (buildS q1ej [.l h0,.l h1])) (K (.exit 0) (buildS q1ek [.l h0,.l h1])):=by kernel_rfl
theorem q1em {α:Type}(N X2 P2 f3 Y2 V2 g3:Nat)(h0 h1:List Int)(K:AExit->St->Option α):∀ (m:Nat) (i:Int),
  loopN (trimSt ((q1eg α N).ann 87 4).head ((q1eg α N).ann 87 4).grow 2) (bodyK Try.prog (q1eg α N) 1 2 87 Try.f87 4) m (buildS q1ei [.n X2,.n P2,.n f3,.n Y2,.n V2,.n g3,.i i,.l h0,.l h1]) (leaveLoop ((q1eg α N).ann 87 4) 2 K)=q0hq none X2 P2 f3 Y2 V2 g3 h0 h1 m i (K .ret (buildS q1ej [.l h0,.l h1])) (K (.exit 0) (buildS q1ek [.l h0,.l h1])):=by
 intro m
 induction m with
 | zero=>intros;rfl
 | succ m ih=>
  intro i
  rw [q0bc]
  refine (q1el N X2 P2 f3 Y2 V2 g3 i h0 h1 _ K).trans ?_
  exact congrArg (fun kn=>q0hp none X2 P2 f3 Y2 V2 g3 h0 h1 i kn (K .ret (buildS q1ej [.l h0,.l h1])) (K (.exit 0) (buildS q1ek [.l h0,.l h1]))) (funext fun i=>ih i)
def q1en (α:Type)(N:Nat):Env α:=(q1eg α N).addLoop2 87 4 (loopSum2 ((q1eg α N).ann 87 4) 2 q1ei (fun l K=>match l with
  | [.n X2,.n P2,.n f3,.n Y2,.n V2,.n g3,.i i,.l h0,.l h1]=>q0hq none X2 P2 f3 Y2 V2 g3 h0 h1 N i (K .ret (buildS q1ej [.l h0,.l h1])) (K (.exit 0) (buildS q1ek [.l h0,.l h1]))
  | _=>none) ((q1eg α N).ls 87 4))
theorem q1eo {α:Type}(N:Nat):EnvOk Try.prog (q1en α N):=(q1eh N).addLoop2 Try.func87 (by kernel_rfl) (q0ba q0td q0te (q1eh N) Try.func87 (by kernel_rfl) (d:=1) (ro:=2) fun l K r h=>by
 split at h
 ·exact (q1em N _ _ _ _ _ _ _ _ K N _).trans h
 ·cases h)
def q1ep:SPat:=⟨[.sliceV 0 0 0 6 false,.sliceV 1 0 0 6 false],[[.vec .i64],[.vec .i64]]⟩
def q1eq:SPat:=⟨[.bool],[[.vec .i64],[.vec .i64]]⟩
theorem q1er {α:Type}(N X2 P2 f3 Y2 V2 g3:Nat)(h0 h1:List Int)(K:AV->Heap->Option α):
  callK Try.prog (q1en α N) 1 87 2 (buildS q1ep [.n X2,.n P2,.n f3,.n Y2,.n V2,.n g3,.l h0,.l h1]).t (buildS q1ep [.n X2,.n P2,.n f3,.n Y2,.n V2,.n g3,.l h0,.l h1]).h K=q0hr none N X2 P2 f3 Y2 V2 g3 h0 h1 (fun r__=>retK (buildS q1eq [.b r__,.l h0,.l h1]) K):=by kernel_rfl
def q1es (α:Type)(N:Nat):Env α:=(q1en α N).addFun 87 true 2 q1ep (fun l K=>match l with
  | [.n X2,.n P2,.n f3,.n Y2,.n V2,.n g3,.l h0,.l h1]=>q0hr none N X2 P2 f3 Y2 V2 g3 h0 h1 (fun r__=>retK (buildS q1eq [.b r__,.l h0,.l h1]) K)
  | _=>none)
theorem q1et {α:Type}(N:Nat):EnvOk Try.prog (q1es α N):=(q1eo N).addFun q0td q0te (d:=1) fun l K r h=>by
 split at h
 ·exact (q1er N _ _ _ _ _ _ _ _ K).trans h
 ·cases h
def q1eu (α:Type)(N:Nat):Env α:=(q1es α N).addAnn 9 27 { head:=[3,5,9,10,13,14,17,18,22,23,24,25,28],grow:=[],out:=[3,5,9,10,13,14,22,23,24,25],ret:=[2] }
theorem q1ev {α:Type}(N:Nat):EnvOk Try.prog (q1eu α N):=(q1et N).addAnn
def q1ew (α:Type)(N:Nat):Env α:=(q1eu α N).addAnn 9 40 { head:=[22,23,24,33,34],grow:=[],out:=[22,24,33],ret:=[2] }
theorem q1ex {α:Type}(N:Nat):EnvOk Try.prog (q1ew α N):=(q1ev N).addAnn
def q1ey (α:Type)(N:Nat):Env α:=(q1ew α N).addAnn 95 3 { head:=[1,2,4,5,6,16,17],grow:=[],out:=[1,2,4,5],ret:=[2,3] }
theorem q1ez {α:Type}(N:Nat):EnvOk Try.prog (q1ey α N):=(q1ex N).addAnn
def q1f0 (α:Type)(N:Nat):Env α:=(q1ey α N).addAnn 95 8 { head:=[1,2,4,5,6,8,16,17],grow:=[],out:=[1,2,4,5,6,16,17],ret:=[2,3] }
theorem q1f1 {α:Type}(N:Nat):EnvOk Try.prog (q1f0 α N):=(q1ez N).addAnn
def q1f2:SPat:=⟨[.undef,.ptr ⟨⟨0,0⟩,0,0,1⟩,.ptr ⟨⟨1,0⟩,0,0,8⟩,.undef,.ptr ⟨⟨2,0⟩,0,0,8⟩,.int .i64,.ptr ⟨⟨3,0⟩,0,0,8⟩,.undef,.int .i64,.undef,.undef,.undef,.undef,.undef,.undef,.undef,.int .i64,.int .i64]++List.replicate 36 .undef,[[.vals [.int .i64],.ints .u8 8,.ints .u8 8],[.ints .i64 8],[.ints .i64 8],[.ints .i64 8]]⟩
def q1f3:SPat:=⟨[.undef,.ptr ⟨⟨0,0⟩,0,0,1⟩,.ptr ⟨⟨1,0⟩,0,0,8⟩,.undef,.ptr ⟨⟨2,0⟩,0,0,8⟩,.int .i64,.ptr ⟨⟨3,0⟩,0,0,8⟩,.undef,.undef,.undef,.undef,.undef,.undef,.undef,.undef,.undef,.int .i64,.int .i64]++List.replicate 36 .undef,[[.vals [.int .i64],.ints .u8 8,.ints .u8 8],[.ints .i64 8],[.ints .i64 8],[.ints .i64 8]]⟩
theorem q1f4 {α:Type}(N:Nat)(many k X0 D1 d0:Int)(c0 b0 h1 h2 h3:NI)(kn:St->Option α)(K:AExit->St->Option α):
  roundK Try.prog (q1f0 α N) 1 0 95 Try.f95 8 4 (buildS q1f2 [.i many,.i k,.i X0,.i D1,.i d0,.f c0,.f b0,.f h1,.f h2,.f h3]) kn K=q0dk none many X0 D1 d0 c0 b0 h1 h3 k h2 (fun k h2=>kn (buildS q1f2 [.i many,.i k,.i X0,.i D1,.i d0,.f c0,.f b0,.f h1,.f h2,.f h3])) (fun h2_=>K (.exit 2) (buildS q1f3 [.i many,.i X0,.i D1,.i d0,.f c0,.f b0,.f h1,.f h2_,.f h3])):=by kernel_rfl
theorem q1f5 {α:Type}(N:Nat)(many X0 D1 d0:Int)(c0 b0 h1 h3:NI)(K:AExit->St->Option α):∀ (m:Nat) (k:Int) (h2:NI),
  loopN (trimSt ((q1f0 α N).ann 95 8).head ((q1f0 α N).ann 95 8).grow 4) (bodyK Try.prog (q1f0 α N) 1 0 95 Try.f95 8) m (buildS q1f2 [.i many,.i k,.i X0,.i D1,.i d0,.f c0,.f b0,.f h1,.f h2,.f h3]) (leaveLoop ((q1f0 α N).ann 95 8) 4 K)=q0dl none many X0 D1 d0 c0 b0 h1 h3 m k h2 (fun h2_=>K (.exit 2) (buildS q1f3 [.i many,.i X0,.i D1,.i d0,.f c0,.f b0,.f h1,.f h2_,.f h3])):=by
 intro m
 induction m with
 | zero=>intros;rfl
 | succ m ih=>
  intro k h2
  rw [q0bc]
  refine (q1f4 N many k X0 D1 d0 c0 b0 h1 h2 h3 _ K).trans ?_
  exact congrArg (fun kn=>q0dk none many X0 D1 d0 c0 b0 h1 h3 k h2 kn (fun h2_=>K (.exit 2) (buildS q1f3 [.i many,.i X0,.i D1,.i d0,.f c0,.f b0,.f h1,.f h2_,.f h3]))) (funext fun k=>funext fun h2=>ih k h2)
def q1f6 (α:Type)(N:Nat):Env α:=(q1f0 α N).addLoop2 95 8 (loopSum2 ((q1f0 α N).ann 95 8) 0 q1f2 (fun l K=>match l with
  | [.i many,.i k,.i X0,.i D1,.i d0,.f c0,.f b0,.f h1,.f h2,.f h3]=>q0dl none many X0 D1 d0 c0 b0 h1 h3 N k h2 (fun h2_=>K (.exit 2) (buildS q1f3 [.i many,.i X0,.i D1,.i d0,.f c0,.f b0,.f h1,.f h2_,.f h3]))
  | _=>none) ((q1f0 α N).ls 95 8))
theorem q1f7 {α:Type}(N:Nat):EnvOk Try.prog (q1f6 α N):=(q1f1 N).addLoop2 Try.func95 (by kernel_rfl) (q0ba q0td q0te (q1f1 N) Try.func95 (by kernel_rfl) (d:=1) (ro:=0) fun l K r h=>by
 split at h
 ·exact (q1f5 N _ _ _ _ _ _ _ _ K N _ _).trans h
 ·cases h)
def q1f8:SPat:=⟨[.undef,.ptr ⟨⟨0,0⟩,0,0,1⟩,.ptr ⟨⟨1,0⟩,0,0,8⟩,.undef,.ptr ⟨⟨2,0⟩,0,0,8⟩,.int .i64,.ptr ⟨⟨3,0⟩,0,0,8⟩,.undef,.undef,.undef,.undef,.undef,.undef,.undef,.undef,.undef,.int .i64,.int .i64]++List.replicate 36 .undef,[[.vals [.int .i64],.ints .u8 8,.ints .u8 8],[.ints .i64 8],[.ints .i64 8],[.ints .i64 8]]⟩
def q1f9:SPat:=⟨[.undef,.ptr ⟨⟨0,0⟩,0,0,1⟩,.ptr ⟨⟨1,0⟩,0,0,8⟩,.undef,.ptr ⟨⟨2,0⟩,0,0,8⟩,.int .i64]++List.replicate 48 .undef,[[.vals [.int .i64],.ints .u8 8,.ints .u8 8],[.ints .i64 8],[.ints .i64 8],[.ints .i64 8]]⟩
theorem q1fa {α:Type}(N:Nat)(many X0 D1 d0:Int)(c0 b0 h1 h2 h3:NI)(kn:St->Option α)(K:AExit->St->Option α):
  roundK Try.prog (q1f6 α N) 1 0 95 Try.f95 3 4 (buildS q1f8 [.i many,.i X0,.i D1,.i d0,.f c0,.f b0,.f h1,.f h2,.f h3]) kn K=q0dm none N X0 d0 c0 b0 h1 h3 many D1 h2 (fun many D1 h2=>kn (buildS q1f8 [.i many,.i X0,.i D1,.i d0,.f c0,.f b0,.f h1,.f h2,.f h3])) (fun many_ h2_=>K (.exit 0) (buildS q1f9 [.i many_,.i d0,.f c0,.f b0,.f h1,.f h2_,.f h3])):=by kernel_rfl
theorem q1fb {α:Type}(N:Nat)(X0 d0:Int)(c0 b0 h1 h3:NI)(K:AExit->St->Option α):∀ (m:Nat) (many D1:Int) (h2:NI),
  loopN (trimSt ((q1f6 α N).ann 95 3).head ((q1f6 α N).ann 95 3).grow 4) (bodyK Try.prog (q1f6 α N) 1 0 95 Try.f95 3) m (buildS q1f8 [.i many,.i X0,.i D1,.i d0,.f c0,.f b0,.f h1,.f h2,.f h3]) (leaveLoop ((q1f6 α N).ann 95 3) 4 K)=q0dn none N X0 d0 c0 b0 h1 h3 m many D1 h2 (fun many_ h2_=>K (.exit 0) (buildS q1f9 [.i many_,.i d0,.f c0,.f b0,.f h1,.f h2_,.f h3])):=by
 intro m
 induction m with
 | zero=>intros;rfl
 | succ m ih=>
  intro many D1 h2
  rw [q0bc]
  refine (q1fa N many X0 D1 d0 c0 b0 h1 h2 h3 _ K).trans ?_
  exact congrArg (fun kn=>q0dm none N X0 d0 c0 b0 h1 h3 many D1 h2 kn (fun many_ h2_=>K (.exit 0) (buildS q1f9 [.i many_,.i d0,.f c0,.f b0,.f h1,.f h2_,.f h3]))) (funext fun many=>funext fun D1=>funext fun h2=>ih many D1 h2)
def q1fc (α:Type)(N:Nat):Env α:=(q1f6 α N).addLoop2 95 3 (loopSum2 ((q1f6 α N).ann 95 3) 0 q1f8 (fun l K=>match l with
  | [.i many,.i X0,.i D1,.i d0,.f c0,.f b0,.f h1,.f h2,.f h3]=>q0dn none N X0 d0 c0 b0 h1 h3 N many D1 h2 (fun many_ h2_=>K (.exit 0) (buildS q1f9 [.i many_,.i d0,.f c0,.f b0,.f h1,.f h2_,.f h3]))
  | _=>none) ((q1f6 α N).ls 95 3))
theorem q1fd {α:Type}(N:Nat):EnvOk Try.prog (q1fc α N):=(q1f7 N).addLoop2 Try.func95 (by kernel_rfl) (q0ba q0td q0te (q1f7 N) Try.func95 (by kernel_rfl) (d:=1) (ro:=0) fun l K r h=>by
 split at h
 ·exact (q1fb N _ _ _ _ _ _ K N _ _ _).trans h
 ·cases h)
def q1fe (α:Type)(N:Nat):Env α:=(q1fc α N).addAnn 95 13 { head:=[2,4,5,42,43],grow:=[],out:=[2,4,5],ret:=[2,3] }
theorem q1ff {α:Type}(N:Nat):EnvOk Try.prog (q1fe α N):=(q1fd N).addAnn
def q1fg:SPat:=⟨[.undef,.undef,.ptr ⟨⟨1,0⟩,0,0,8⟩,.undef,.ptr ⟨⟨2,0⟩,0,0,8⟩,.int .i64,.undef,.undef,.undef,.undef,.undef,.undef,.undef,.undef,.undef,.undef,.undef,.undef,.undef,.undef,.undef,.undef,.undef,.undef,.undef,.undef,.undef,.undef,.undef,.undef,.undef,.undef,.undef,.undef,.undef,.undef,.undef,.undef,.undef,.undef,.undef,.undef,.int .i64,.int .i64]++List.replicate 10 .undef,[[.vals [.int .i64],.ints .u8 8,.ints .u8 8],[.ints .i64 8],[.ints .i64 8],[.ints .i64 8]]⟩
def q1fh:SPat:=⟨[.undef,.undef,.ptr ⟨⟨1,0⟩,0,0,8⟩,.undef,.ptr ⟨⟨2,0⟩,0,0,8⟩,.int .i64]++List.replicate 48 .undef,[[.vals [.int .i64],.ints .u8 8,.ints .u8 8],[.ints .i64 8],[.ints .i64 8],[.ints .i64 8]]⟩
theorem q1fi {α:Type}(N:Nat)(many Z0 D0 d0:Int)(c0 b0 h1 h2 h3:NI)(kn:St->Option α)(K:AExit->St->Option α):
  roundK Try.prog (q1fe α N) 1 0 95 Try.f95 13 4 (buildS q1fg [.i many,.i Z0,.i D0,.i d0,.f c0,.f b0,.f h1,.f h2,.f h3]) kn K=q0do none many Z0 d0 c0 b0 h1 h3 D0 h2 (fun D0 h2=>kn (buildS q1fg [.i many,.i Z0,.i D0,.i d0,.f c0,.f b0,.f h1,.f h2,.f h3])) (fun h2_=>K (.exit 4) (buildS q1fh [.i many,.i d0,.f c0,.f b0,.f h1,.f h2_,.f h3])):=by kernel_rfl
theorem q1fj {α:Type}(N:Nat)(many Z0 d0:Int)(c0 b0 h1 h3:NI)(K:AExit->St->Option α):∀ (m:Nat) (D0:Int) (h2:NI),
  loopN (trimSt ((q1fe α N).ann 95 13).head ((q1fe α N).ann 95 13).grow 4) (bodyK Try.prog (q1fe α N) 1 0 95 Try.f95 13) m (buildS q1fg [.i many,.i Z0,.i D0,.i d0,.f c0,.f b0,.f h1,.f h2,.f h3]) (leaveLoop ((q1fe α N).ann 95 13) 4 K)=q0dp none many Z0 d0 c0 b0 h1 h3 m D0 h2 (fun h2_=>K (.exit 4) (buildS q1fh [.i many,.i d0,.f c0,.f b0,.f h1,.f h2_,.f h3])):=by
 intro m
 induction m with
 | zero=>intros;rfl
 | succ m ih=>
  intro D0 h2
  rw [q0bc]
  refine (q1fi N many Z0 D0 d0 c0 b0 h1 h2 h3 _ K).trans ?_
  exact congrArg (fun kn=>q0do none many Z0 d0 c0 b0 h1 h3 D0 h2 kn (fun h2_=>K (.exit 4) (buildS q1fh [.i many,.i d0,.f c0,.f b0,.f h1,.f h2_,.f h3]))) (funext fun D0=>funext fun h2=>ih D0 h2)
def q1fk (α:Type)(N:Nat):Env α:=(q1fe α N).addLoop2 95 13 (loopSum2 ((q1fe α N).ann 95 13) 0 q1fg (fun l K=>match l with
  | [.i many,.i Z0,.i D0,.i d0,.f c0,.f b0,.f h1,.f h2,.f h3]=>q0dp none many Z0 d0 c0 b0 h1 h3 N D0 h2 (fun h2_=>K (.exit 4) (buildS q1fh [.i many,.i d0,.f c0,.f b0,.f h1,.f h2_,.f h3]))
  | _=>none) ((q1fe α N).ls 95 13))
theorem q1fl {α:Type}(N:Nat):EnvOk Try.prog (q1fk α N):=(q1ff N).addLoop2 Try.func95 (by kernel_rfl) (q0ba q0td q0te (q1ff N) Try.func95 (by kernel_rfl) (d:=1) (ro:=0) fun l K r h=>by
 split at h
 ·exact (q1fj N _ _ _ _ _ _ _ K N _ _).trans h
 ·cases h)
def q1fm:SPat:=⟨[.agg [.vals [.int .i64],.ints .u8 8,.ints .u8 8]],[]⟩
def q1fn:SPat:=⟨[.tuple [.agg [.ints .i64 8],.int .i64]],[]⟩
theorem q1fo {α:Type}(N:Nat)(g0:Int)(i0 j0:NI)(K:AV->Heap->Option α):
  callK Try.prog (q1fk α N) 1 95 0 (buildS q1fm [.i g0,.f i0,.f j0]).t (buildS q1fm [.i g0,.f i0,.f j0]).h K=q0dq none N g0 i0 j0 (fun N1 C0=>retK (buildS q1fn [.f N1,.i C0]) K):=by kernel_rfl
def q1fp (α:Type)(N:Nat):Env α:=(q1fk α N).addFun 95 true 0 q1fm (fun l K=>match l with
  | [.i g0,.f i0,.f j0]=>q0dq none N g0 i0 j0 (fun N1 C0=>retK (buildS q1fn [.f N1,.i C0]) K)
  | _=>none)
theorem q1fq {α:Type}(N:Nat):EnvOk Try.prog (q1fp α N):=(q1fl N).addFun q0td q0te (d:=1) fun l K r h=>by
 split at h
 ·exact (q1fo N _ _ _ K).trans h
 ·cases h
def q1fr (α:Type)(N:Nat):Env α:=(q1fp α N).addAnn 98 5 { head:=[1,3,4,5,6,23,24],grow:=[6],out:=[1,3,5,6],ret:=[2] }
theorem q1fs {α:Type}(N:Nat):EnvOk Try.prog (q1fr α N):=(q1fq N).addAnn
def q1ft:SPat:=⟨[.undef,.ptr ⟨⟨0,0⟩,0,0,1⟩,.undef,.ptr ⟨⟨1,0⟩,0,0,8⟩,.int .i64,.ptr ⟨⟨2,0⟩,0,0,8⟩,.sliceV 4 0 0 1 false,.undef,.undef,.undef,.undef,.undef,.undef,.undef,.undef,.undef,.undef,.undef,.undef,.undef,.undef,.undef,.undef,.int .i64,.int .i64]++List.replicate 78 .undef,[[.vals [.int .i64],.ints .u8 8,.ints .u8 8],[.ints .i64 8],[.ints .i64 8],[.pool .i64],[.hdr 3]]⟩
def q1fu:SPat:=⟨[.undef,.ptr ⟨⟨0,0⟩,0,0,1⟩,.undef,.ptr ⟨⟨1,0⟩,0,0,8⟩,.undef,.ptr ⟨⟨2,0⟩,0,0,8⟩,.sliceV 4 0 0 1 false]++List.replicate 96 .undef,[[.vals [.int .i64],.ints .u8 8,.ints .u8 8],[.ints .i64 8],[.ints .i64 8],[.pool .i64],[.hdr 3]]⟩
theorem q1fv {α:Type}(N:Nat)(t4:Int)(n1 g1 v1:Nat)(c1 W2 d0:Int)(c0 b0 h1 h2:NI)(h3:List (List Int))(h4:List (Nat×Nat))(kn:St->Option α)(K:AExit->St->Option α):
  roundK Try.prog (q1fr α N) 1 0 98 Try.f98 5 5 (buildS q1ft [.i t4,.n n1,.n g1,.n v1,.i c1,.i W2,.i d0,.f c0,.f b0,.f h1,.f h2,.r h3,.p h4]) kn K=q0dv none t4 c1 d0 c0 b0 h1 h2 n1 g1 v1 W2 h3 h4 (fun n1 g1 v1 W2 h3 h4=>kn (buildS q1ft [.i t4,.n n1,.n g1,.n v1,.i c1,.i W2,.i d0,.f c0,.f b0,.f h1,.f h2,.r h3,.p h4])) (fun q4 r4 s4 h3_ h4_=>K (.exit 0) (buildS q1fu [.n q4,.n r4,.n s4,.i d0,.f c0,.f b0,.f h1,.f h2,.r h3_,.p h4_])):=by kernel_rfl
theorem q1fw {α:Type}(N:Nat)(t4 c1 d0:Int)(c0 b0 h1 h2:NI)(K:AExit->St->Option α):∀ (m n1 g1 v1:Nat) (W2:Int) (h3:List (List Int)) (h4:List (Nat×Nat)),
  loopN (trimSt ((q1fr α N).ann 98 5).head ((q1fr α N).ann 98 5).grow 5) (bodyK Try.prog (q1fr α N) 1 0 98 Try.f98 5) m (buildS q1ft [.i t4,.n n1,.n g1,.n v1,.i c1,.i W2,.i d0,.f c0,.f b0,.f h1,.f h2,.r h3,.p h4]) (leaveLoop ((q1fr α N).ann 98 5) 5 K)=q0dw none t4 c1 d0 c0 b0 h1 h2 m n1 g1 v1 W2 h3 h4 (fun q4 r4 s4 h3_ h4_=>K (.exit 0) (buildS q1fu [.n q4,.n r4,.n s4,.i d0,.f c0,.f b0,.f h1,.f h2,.r h3_,.p h4_])):=by
 intro m
 induction m with
 | zero=>intros;rfl
 | succ m ih=>
  intro n1 g1 v1 W2 h3 h4
  rw [q0bc]
  refine (q1fv N t4 n1 g1 v1 c1 W2 d0 c0 b0 h1 h2 h3 h4 _ K).trans ?_
  exact congrArg (fun kn=>q0dv none t4 c1 d0 c0 b0 h1 h2 n1 g1 v1 W2 h3 h4 kn (fun q4 r4 s4 h3_ h4_=>K (.exit 0) (buildS q1fu [.n q4,.n r4,.n s4,.i d0,.f c0,.f b0,.f h1,.f h2,.r h3_,.p h4_]))) (funext fun n1=>funext fun g1=>funext fun v1=>funext fun W2=>funext fun h3=>funext fun h4=>ih n1 g1 v1 W2 h3 h4)
def q1fx (α:Type)(N:Nat):Env α:=(q1fr α N).addLoop2 98 5 (loopSum2 ((q1fr α N).ann 98 5) 0 q1ft (fun l K=>match l with
  | [.i t4,.n n1,.n g1,.n v1,.i c1,.i W2,.i d0,.f c0,.f b0,.f h1,.f h2,.r h3,.p h4]=>q0dw none t4 c1 d0 c0 b0 h1 h2 N n1 g1 v1 W2 h3 h4 (fun q4 r4 s4 h3_ h4_=>K (.exit 0) (buildS q1fu [.n q4,.n r4,.n s4,.i d0,.f c0,.f b0,.f h1,.f h2,.r h3_,.p h4_]))
  | _=>none) ((q1fr α N).ls 98 5))
theorem q1fy {α:Type}(N:Nat):EnvOk Try.prog (q1fx α N):=(q1fs N).addLoop2 Try.func98 (by kernel_rfl) (q0ba q0td q0te (q1fs N) Try.func98 (by kernel_rfl) (d:=1) (ro:=0) fun l K r h=>by
 split at h
 ·exact (q1fw N _ _ _ _ _ _ _ K N _ _ _ _ _ _).trans h
 ·cases h)
def q1fz (α:Type)(N:Nat):Env α:=(q1fx α N).addAnn 154 3 { head:=[1,3,4,5,21,22],grow:=[5],out:=[5],ret:=[2] }
theorem q1g0 {α:Type}(N:Nat):EnvOk Try.prog (q1fz α N):=(q1fy N).addAnn
def q1g1 (α:Type)(N:Nat):Env α:=(q1fz α N).addAnn 154 6 { head:=[1,3,4,5,6,21,22,26,27],grow:=[5],out:=[1,3,4,5,21,22],ret:=[2] }
theorem q1g2 {α:Type}(N:Nat):EnvOk Try.prog (q1g1 α N):=(q1g0 N).addAnn
def q1g3:SPat:=⟨[.int .i64,.int .i64,.int .i64],[]⟩
def q1g4:SPat:=⟨[.bool],[]⟩
theorem q1g5 {α:Type}(N:Nat)(x a b:Int)(K:AV->Heap->Option α):
  callK Try.prog (q1g1 α N) 1 204 0 (buildS q1g3 [.i x,.i a,.i b]).t (buildS q1g3 [.i x,.i a,.i b]).h K=q0de none N x a b (fun r__=>retK (buildS q1g4 [.b r__]) K):=by kernel_rfl
def q1g6 (α:Type)(N:Nat):Env α:=(q1g1 α N).addFun 204 true 0 q1g3 (fun l K=>match l with
  | [.i x,.i a,.i b]=>q0de none N x a b (fun r__=>retK (buildS q1g4 [.b r__]) K)
  | _=>none)
theorem q1g7 {α:Type}(N:Nat):EnvOk Try.prog (q1g6 α N):=(q1g2 N).addFun q0td q0te (d:=1) fun l K r h=>by
 split at h
 ·exact (q1g5 N _ _ _ K).trans h
 ·cases h
def q1g8:SPat:=⟨[.undef,.ptr ⟨⟨0,0⟩,0,0,1⟩,.undef,.ptr ⟨⟨2,0⟩,0,0,8⟩,.ptr ⟨⟨3,0⟩,0,0,8⟩,.sliceV 1 0 0 3 false,.int .i64,.undef,.undef,.undef,.undef,.undef,.undef,.undef,.undef,.undef,.undef,.undef,.undef,.undef,.undef,.int .i64,.int .i64,.undef,.undef,.undef,.int .i64,.int .i64]++List.replicate 55 .undef,[[.vals [.int .i64],.ints .u8 8,.ints .u8 8],[.vec .i64],[.ints .i64 8],[.ints .i64 8]]⟩
def q1g9:SPat:=⟨[.undef,.ptr ⟨⟨0,0⟩,0,0,1⟩,.undef,.ptr ⟨⟨2,0⟩,0,0,8⟩,.ptr ⟨⟨3,0⟩,0,0,8⟩,.sliceV 1 0 0 3 false,.undef,.undef,.undef,.undef,.undef,.undef,.undef,.undef,.undef,.undef,.undef,.undef,.undef,.undef,.undef,.int .i64,.int .i64]++List.replicate 60 .undef,[[.vals [.int .i64],.ints .u8 8,.ints .u8 8],[.vec .i64],[.ints .i64 8],[.ints .i64 8]]⟩
theorem q1ga {α:Type}(N d2 O1 f2:Nat)(t6 A2 A1 P1 w1 d0:Int)(c0 b0:NI)(h1:List Int)(h2 h3:NI)(kn:St->Option α)(K:AExit->St->Option α):
  roundK Try.prog (q1g6 α N) 1 0 154 Try.f154 6 4 (buildS q1g8 [.n d2,.n O1,.n f2,.i t6,.i A2,.i A1,.i P1,.i w1,.i d0,.f c0,.f b0,.l h1,.f h2,.f h3]) kn K=q0df none N t6 A2 A1 P1 d0 c0 b0 h2 h3 d2 O1 f2 w1 h1 (fun d2 O1 f2 w1 h1=>kn (buildS q1g8 [.n d2,.n O1,.n f2,.i t6,.i A2,.i A1,.i P1,.i w1,.i d0,.f c0,.f b0,.l h1,.f h2,.f h3])) (fun I3 J3 K3 h1_=>K (.exit 2) (buildS q1g9 [.n I3,.n J3,.n K3,.i A2,.i A1,.i d0,.f c0,.f b0,.l h1_,.f h2,.f h3])):=by kernel_rfl
theorem q1gb {α:Type}(N:Nat)(t6 A2 A1 P1 d0:Int)(c0 b0 h2 h3:NI)(K:AExit->St->Option α):∀ (m d2 O1 f2:Nat) (w1:Int) (h1:List Int),
  loopN (trimSt ((q1g6 α N).ann 154 6).head ((q1g6 α N).ann 154 6).grow 4) (bodyK Try.prog (q1g6 α N) 1 0 154 Try.f154 6) m (buildS q1g8 [.n d2,.n O1,.n f2,.i t6,.i A2,.i A1,.i P1,.i w1,.i d0,.f c0,.f b0,.l h1,.f h2,.f h3]) (leaveLoop ((q1g6 α N).ann 154 6) 4 K)=q0dg none N t6 A2 A1 P1 d0 c0 b0 h2 h3 m d2 O1 f2 w1 h1 (fun I3 J3 K3 h1_=>K (.exit 2) (buildS q1g9 [.n I3,.n J3,.n K3,.i A2,.i A1,.i d0,.f c0,.f b0,.l h1_,.f h2,.f h3])):=by
 intro m
 induction m with
 | zero=>intros;rfl
 | succ m ih=>
  intro d2 O1 f2 w1 h1
  rw [q0bc]
  refine (q1ga N d2 O1 f2 t6 A2 A1 P1 w1 d0 c0 b0 h1 h2 h3 _ K).trans ?_
  exact congrArg (fun kn=>q0df none N t6 A2 A1 P1 d0 c0 b0 h2 h3 d2 O1 f2 w1 h1 kn (fun I3 J3 K3 h1_=>K (.exit 2) (buildS q1g9 [.n I3,.n J3,.n K3,.i A2,.i A1,.i d0,.f c0,.f b0,.l h1_,.f h2,.f h3]))) (funext fun d2=>funext fun O1=>funext fun f2=>funext fun w1=>funext fun h1=>ih d2 O1 f2 w1 h1)
def q1gc (α:Type)(N:Nat):Env α:=(q1g6 α N).addLoop2 154 6 (loopSum2 ((q1g6 α N).ann 154 6) 0 q1g8 (fun l K=>match l with
  | [.n d2,.n O1,.n f2,.i t6,.i A2,.i A1,.i P1,.i w1,.i d0,.f c0,.f b0,.l h1,.f h2,.f h3]=>q0dg none N t6 A2 A1 P1 d0 c0 b0 h2 h3 N d2 O1 f2 w1 h1 (fun I3 J3 K3 h1_=>K (.exit 2) (buildS q1g9 [.n I3,.n J3,.n K3,.i A2,.i A1,.i d0,.f c0,.f b0,.l h1_,.f h2,.f h3]))
  | _=>none) ((q1g6 α N).ls 154 6))
theorem q1gd {α:Type}(N:Nat):EnvOk Try.prog (q1gc α N):=(q1g7 N).addLoop2 Try.func154 (by kernel_rfl) (q0ba q0td q0te (q1g7 N) Try.func154 (by kernel_rfl) (d:=1) (ro:=0) fun l K r h=>by
 split at h
 ·exact (q1gb N _ _ _ _ _ _ _ _ _ K N _ _ _ _ _).trans h
 ·cases h)
def q1ge:SPat:=⟨[.undef,.ptr ⟨⟨0,0⟩,0,0,1⟩,.undef,.ptr ⟨⟨2,0⟩,0,0,8⟩,.ptr ⟨⟨3,0⟩,0,0,8⟩,.sliceV 1 0 0 3 false,.undef,.undef,.undef,.undef,.undef,.undef,.undef,.undef,.undef,.undef,.undef,.undef,.undef,.undef,.undef,.int .i64,.int .i64]++List.replicate 60 .undef,[[.vals [.int .i64],.ints .u8 8,.ints .u8 8],[.vec .i64],[.ints .i64 8],[.ints .i64 8]]⟩
def q1gf:SPat:=⟨[.undef,.undef,.undef,.undef,.undef,.sliceV 1 0 0 3 false]++List.replicate 77 .undef,[[.vals [.int .i64],.ints .u8 8,.ints .u8 8],[.vec .i64],[.ints .i64 8],[.ints .i64 8]]⟩
theorem q1gg {α:Type}(N d2 O1 f2:Nat)(A2 A1 d0:Int)(c0 b0:NI)(h1:List Int)(h2 h3:NI)(kn:St->Option α)(K:AExit->St->Option α):
  roundK Try.prog (q1gc α N) 1 0 154 Try.f154 3 4 (buildS q1ge [.n d2,.n O1,.n f2,.i A2,.i A1,.i d0,.f c0,.f b0,.l h1,.f h2,.f h3]) kn K=q0dh none N A2 d0 c0 b0 h2 h3 d2 O1 f2 A1 h1 (fun d2 O1 f2 A1 h1=>kn (buildS q1ge [.n d2,.n O1,.n f2,.i A2,.i A1,.i d0,.f c0,.f b0,.l h1,.f h2,.f h3])) (fun I3 J3 K3 h1_=>K (.exit 0) (buildS q1gf [.n I3,.n J3,.n K3,.i d0,.f c0,.f b0,.l h1_,.f h2,.f h3])):=by kernel_rfl
theorem q1gh {α:Type}(N:Nat)(A2 d0:Int)(c0 b0 h2 h3:NI)(K:AExit->St->Option α):∀ (m d2 O1 f2:Nat) (A1:Int) (h1:List Int),
  loopN (trimSt ((q1gc α N).ann 154 3).head ((q1gc α N).ann 154 3).grow 4) (bodyK Try.prog (q1gc α N) 1 0 154 Try.f154 3) m (buildS q1ge [.n d2,.n O1,.n f2,.i A2,.i A1,.i d0,.f c0,.f b0,.l h1,.f h2,.f h3]) (leaveLoop ((q1gc α N).ann 154 3) 4 K)=q0di none N A2 d0 c0 b0 h2 h3 m d2 O1 f2 A1 h1 (fun I3 J3 K3 h1_=>K (.exit 0) (buildS q1gf [.n I3,.n J3,.n K3,.i d0,.f c0,.f b0,.l h1_,.f h2,.f h3])):=by
 intro m
 induction m with
 | zero=>intros;rfl
 | succ m ih=>
  intro d2 O1 f2 A1 h1
  rw [q0bc]
  refine (q1gg N d2 O1 f2 A2 A1 d0 c0 b0 h1 h2 h3 _ K).trans ?_
  exact congrArg (fun kn=>q0dh none N A2 d0 c0 b0 h2 h3 d2 O1 f2 A1 h1 kn (fun I3 J3 K3 h1_=>K (.exit 0) (buildS q1gf [.n I3,.n J3,.n K3,.i d0,.f c0,.f b0,.l h1_,.f h2,.f h3]))) (funext fun d2=>funext fun O1=>funext fun f2=>funext fun A1=>funext fun h1=>ih d2 O1 f2 A1 h1)
def q1gi (α:Type)(N:Nat):Env α:=(q1gc α N).addLoop2 154 3 (loopSum2 ((q1gc α N).ann 154 3) 0 q1ge (fun l K=>match l with
  | [.n d2,.n O1,.n f2,.i A2,.i A1,.i d0,.f c0,.f b0,.l h1,.f h2,.f h3]=>q0di none N A2 d0 c0 b0 h2 h3 N d2 O1 f2 A1 h1 (fun I3 J3 K3 h1_=>K (.exit 0) (buildS q1gf [.n I3,.n J3,.n K3,.i d0,.f c0,.f b0,.l h1_,.f h2,.f h3]))
  | _=>none) ((q1gc α N).ls 154 3))
theorem q1gj {α:Type}(N:Nat):EnvOk Try.prog (q1gi α N):=(q1gd N).addLoop2 Try.func154 (by kernel_rfl) (q0ba q0td q0te (q1gd N) Try.func154 (by kernel_rfl) (d:=1) (ro:=0) fun l K r h=>by
 split at h
 ·exact (q1gh N _ _ _ _ _ _ K N _ _ _ _ _).trans h
 ·cases h)
def q1gk:SPat:=⟨[.agg [.vals [.int .i64],.ints .u8 8,.ints .u8 8]],[]⟩
def q1gl:SPat:=⟨[.sliceV 0 0 0 3 false],[[.vec .i64]]⟩
theorem q1gm {α:Type}(N:Nat)(g0:Int)(i0 j0:NI)(K:AV->Heap->Option α):
  callK Try.prog (q1gi α N) 1 154 0 (buildS q1gk [.i g0,.f i0,.f j0]).t (buildS q1gk [.i g0,.f i0,.f j0]).h K=q0dj none N g0 i0 j0 (fun b3 c3 d3 h0_=>retK (buildS q1gl [.n b3,.n c3,.n d3,.l h0_]) K):=by kernel_rfl
def q1gn (α:Type)(N:Nat):Env α:=(q1gi α N).addFun 154 true 0 q1gk (fun l K=>match l with
  | [.i g0,.f i0,.f j0]=>q0dj none N g0 i0 j0 (fun b3 c3 d3 h0_=>retK (buildS q1gl [.n b3,.n c3,.n d3,.l h0_]) K)
  | _=>none)
theorem q1go {α:Type}(N:Nat):EnvOk Try.prog (q1gn α N):=(q1gj N).addFun q0td q0te (d:=1) fun l K r h=>by
 split at h
 ·exact (q1gm N _ _ _ K).trans h
 ·cases h
def q1gp (α:Type)(N:Nat):Env α:=(q1gn α N).addAnn 98 9 { head:=[3,5,6,33,34,35],grow:=[],out:=[6],ret:=[2] }
theorem q1gq {α:Type}(N:Nat):EnvOk Try.prog (q1gp α N):=(q1go N).addAnn
def q1gr:SPat:=⟨[.undef,.undef,.undef,.ptr ⟨⟨1,0⟩,0,0,8⟩,.undef,.ptr ⟨⟨2,0⟩,0,0,8⟩,.sliceV 4 0 0 1 false,.undef,.undef,.undef,.undef,.undef,.undef,.undef,.undef,.undef,.undef,.undef,.undef,.undef,.undef,.undef,.undef,.undef,.undef,.undef,.undef,.undef,.undef,.undef,.undef,.undef,.undef,.sliceV 5 0 0 3 false,.int .i64,.int .i64]++List.replicate 67 .undef,[[.vals [.int .i64],.ints .u8 8,.ints .u8 8],[.ints .i64 8],[.ints .i64 8],[.pool .i64],[.hdr 3],[.vec .i64]]⟩
def q1gs:SPat:=⟨[.undef,.undef,.undef,.undef,.undef,.undef,.sliceV 4 0 0 1 false]++List.replicate 96 .undef,[[.vals [.int .i64],.ints .u8 8,.ints .u8 8],[.ints .i64 8],[.ints .i64 8],[.pool .i64],[.hdr 3],[.vec .i64]]⟩
theorem q1gt {α:Type}(N n1 g1 v1 x3 A3 R3:Nat)(K1 F0 d0:Int)(c0 b0 h1 h2:NI)(h3:List (List Int))(h4:List (Nat×Nat))(h5:List Int)(kn:St->Option α)(K:AExit->St->Option α):
  roundK Try.prog (q1gp α N) 1 0 98 Try.f98 9 6 (buildS q1gr [.n n1,.n g1,.n v1,.n x3,.n A3,.n R3,.i K1,.i F0,.i d0,.f c0,.f b0,.f h1,.f h2,.r h3,.p h4,.l h5]) kn K=q0dx none n1 g1 v1 x3 A3 R3 K1 d0 c0 b0 h1 h2 h4 h5 F0 h3 (fun F0 h3=>kn (buildS q1gr [.n n1,.n g1,.n v1,.n x3,.n A3,.n R3,.i K1,.i F0,.i d0,.f c0,.f b0,.f h1,.f h2,.r h3,.p h4,.l h5])) (fun h3_=>K (.exit 2) (buildS q1gs [.n n1,.n g1,.n v1,.i d0,.f c0,.f b0,.f h1,.f h2,.r h3_,.p h4,.l h5])):=by kernel_rfl
theorem q1gu {α:Type}(N n1 g1 v1 x3 A3 R3:Nat)(K1 d0:Int)(c0 b0 h1 h2:NI)(h4:List (Nat×Nat))(h5:List Int)(K:AExit->St->Option α):∀ (m:Nat) (F0:Int) (h3:List (List Int)),
  loopN (trimSt ((q1gp α N).ann 98 9).head ((q1gp α N).ann 98 9).grow 6) (bodyK Try.prog (q1gp α N) 1 0 98 Try.f98 9) m (buildS q1gr [.n n1,.n g1,.n v1,.n x3,.n A3,.n R3,.i K1,.i F0,.i d0,.f c0,.f b0,.f h1,.f h2,.r h3,.p h4,.l h5]) (leaveLoop ((q1gp α N).ann 98 9) 6 K)=q0dy none n1 g1 v1 x3 A3 R3 K1 d0 c0 b0 h1 h2 h4 h5 m F0 h3 (fun h3_=>K (.exit 2) (buildS q1gs [.n n1,.n g1,.n v1,.i d0,.f c0,.f b0,.f h1,.f h2,.r h3_,.p h4,.l h5])):=by
 intro m
 induction m with
 | zero=>intros;rfl
 | succ m ih=>
  intro F0 h3
  rw [q0bc]
  refine (q1gt N n1 g1 v1 x3 A3 R3 K1 F0 d0 c0 b0 h1 h2 h3 h4 h5 _ K).trans ?_
  exact congrArg (fun kn=>q0dx none n1 g1 v1 x3 A3 R3 K1 d0 c0 b0 h1 h2 h4 h5 F0 h3 kn (fun h3_=>K (.exit 2) (buildS q1gs [.n n1,.n g1,.n v1,.i d0,.f c0,.f b0,.f h1,.f h2,.r h3_,.p h4,.l h5]))) (funext fun F0=>funext fun h3=>ih F0 h3)
def q1gv (α:Type)(N:Nat):Env α:=(q1gp α N).addLoop2 98 9 (loopSum2 ((q1gp α N).ann 98 9) 0 q1gr (fun l K=>match l with
  | [.n n1,.n g1,.n v1,.n x3,.n A3,.n R3,.i K1,.i F0,.i d0,.f c0,.f b0,.f h1,.f h2,.r h3,.p h4,.l h5]=>q0dy none n1 g1 v1 x3 A3 R3 K1 d0 c0 b0 h1 h2 h4 h5 N F0 h3 (fun h3_=>K (.exit 2) (buildS q1gs [.n n1,.n g1,.n v1,.i d0,.f c0,.f b0,.f h1,.f h2,.r h3_,.p h4,.l h5]))
  | _=>none) ((q1gp α N).ls 98 9))
theorem q1gw {α:Type}(N:Nat):EnvOk Try.prog (q1gv α N):=(q1gq N).addLoop2 Try.func98 (by kernel_rfl) (q0ba q0td q0te (q1gq N) Try.func98 (by kernel_rfl) (d:=1) (ro:=0) fun l K r h=>by
 split at h
 ·exact (q1gu N _ _ _ _ _ _ _ _ _ _ _ _ _ _ K N _ _).trans h
 ·cases h)
def q1gx (α:Type)(N:Nat):Env α:=(q1gv α N).addAnn 98 17 { head:=[6,76,77],grow:=[],out:=[6],ret:=[2] }
theorem q1gy {α:Type}(N:Nat):EnvOk Try.prog (q1gx α N):=(q1gw N).addAnn
def q1gz (α:Type)(N:Nat):Env α:=(q1gx α N).addAnn 98 20 { head:=[6,11,76,77,84,85],grow:=[],out:=[6,76,77],ret:=[2] }
theorem q1h0 {α:Type}(N:Nat):EnvOk Try.prog (q1gz α N):=(q1gy N).addAnn
def q1h1:SPat:=⟨[.undef,.undef,.undef,.undef,.undef,.undef,.sliceV 4 0 0 1 false,.undef,.undef,.undef,.undef,.int .i64,.undef,.undef,.undef,.undef,.undef,.undef,.undef,.undef,.undef,.undef,.undef,.undef,.undef,.undef,.undef,.undef,.undef,.undef,.undef,.undef,.undef,.undef,.undef,.undef,.undef,.undef,.undef,.undef,.undef,.undef,.undef,.undef,.undef,.undef,.undef,.undef,.undef,.undef,.undef,.undef,.undef,.undef,.undef,.undef,.undef,.undef,.undef,.undef,.undef,.undef,.undef,.undef,.undef,.undef,.undef,.undef,.undef,.undef,.undef,.undef,.undef,.undef,.undef,.undef,.int .i64,.int .i64,.undef,.undef,.undef,.undef,.undef,.undef,.int .i64,.int .i64]++List.replicate 17 .undef,[[.vals [.int .i64],.ints .u8 8,.ints .u8 8],[.ints .i64 8],[.ints .i64 8],[.pool .i64],[.hdr 3],[.vec .i64]]⟩
def q1h2:SPat:=⟨[.undef,.undef,.undef,.undef,.undef,.undef,.sliceV 4 0 0 1 false,.undef,.undef,.undef,.undef,.undef,.undef,.undef,.undef,.undef,.undef,.undef,.undef,.undef,.undef,.undef,.undef,.undef,.undef,.undef,.undef,.undef,.undef,.undef,.undef,.undef,.undef,.undef,.undef,.undef,.undef,.undef,.undef,.undef,.undef,.undef,.undef,.undef,.undef,.undef,.undef,.undef,.undef,.undef,.undef,.undef,.undef,.undef,.undef,.undef,.undef,.undef,.undef,.undef,.undef,.undef,.undef,.undef,.undef,.undef,.undef,.undef,.undef,.undef,.undef,.undef,.undef,.undef,.undef,.undef,.int .i64,.int .i64]++List.replicate 25 .undef,[[.vals [.int .i64],.ints .u8 8,.ints .u8 8],[.ints .i64 8],[.ints .i64 8],[.pool .i64],[.hdr 3],[.vec .i64]]⟩
theorem q1h3 {α:Type}(N n1 g1 v1:Nat)(V0 B2 g2 B3 E2 d0:Int)(c0 b0 h1 h2:NI)(h3:List (List Int))(h4:List (Nat×Nat))(h5:List Int)(kn:St->Option α)(K:AExit->St->Option α):
  roundK Try.prog (q1gz α N) 1 0 98 Try.f98 20 6 (buildS q1h1 [.n n1,.n g1,.n v1,.i V0,.i B2,.i g2,.i B3,.i E2,.i d0,.f c0,.f b0,.f h1,.f h2,.r h3,.p h4,.l h5]) kn K=q0dz none n1 g1 v1 V0 B2 g2 B3 d0 c0 b0 h1 h2 h4 h5 E2 h3 (fun E2 h3=>kn (buildS q1h1 [.n n1,.n g1,.n v1,.i V0,.i B2,.i g2,.i B3,.i E2,.i d0,.f c0,.f b0,.f h1,.f h2,.r h3,.p h4,.l h5])) (fun h3_=>K (.exit 6) (buildS q1h2 [.n n1,.n g1,.n v1,.i B2,.i g2,.i d0,.f c0,.f b0,.f h1,.f h2,.r h3_,.p h4,.l h5])):=by kernel_rfl
theorem q1h4 {α:Type}(N n1 g1 v1:Nat)(V0 B2 g2 B3 d0:Int)(c0 b0 h1 h2:NI)(h4:List (Nat×Nat))(h5:List Int)(K:AExit->St->Option α):∀ (m:Nat) (E2:Int) (h3:List (List Int)),
  loopN (trimSt ((q1gz α N).ann 98 20).head ((q1gz α N).ann 98 20).grow 6) (bodyK Try.prog (q1gz α N) 1 0 98 Try.f98 20) m (buildS q1h1 [.n n1,.n g1,.n v1,.i V0,.i B2,.i g2,.i B3,.i E2,.i d0,.f c0,.f b0,.f h1,.f h2,.r h3,.p h4,.l h5]) (leaveLoop ((q1gz α N).ann 98 20) 6 K)=q0e0 none n1 g1 v1 V0 B2 g2 B3 d0 c0 b0 h1 h2 h4 h5 m E2 h3 (fun h3_=>K (.exit 6) (buildS q1h2 [.n n1,.n g1,.n v1,.i B2,.i g2,.i d0,.f c0,.f b0,.f h1,.f h2,.r h3_,.p h4,.l h5])):=by
 intro m
 induction m with
 | zero=>intros;rfl
 | succ m ih=>
  intro E2 h3
  rw [q0bc]
  refine (q1h3 N n1 g1 v1 V0 B2 g2 B3 E2 d0 c0 b0 h1 h2 h3 h4 h5 _ K).trans ?_
  exact congrArg (fun kn=>q0dz none n1 g1 v1 V0 B2 g2 B3 d0 c0 b0 h1 h2 h4 h5 E2 h3 kn (fun h3_=>K (.exit 6) (buildS q1h2 [.n n1,.n g1,.n v1,.i B2,.i g2,.i d0,.f c0,.f b0,.f h1,.f h2,.r h3_,.p h4,.l h5]))) (funext fun E2=>funext fun h3=>ih E2 h3)
def q1h5 (α:Type)(N:Nat):Env α:=(q1gz α N).addLoop2 98 20 (loopSum2 ((q1gz α N).ann 98 20) 0 q1h1 (fun l K=>match l with
  | [.n n1,.n g1,.n v1,.i V0,.i B2,.i g2,.i B3,.i E2,.i d0,.f c0,.f b0,.f h1,.f h2,.r h3,.p h4,.l h5]=>q0e0 none n1 g1 v1 V0 B2 g2 B3 d0 c0 b0 h1 h2 h4 h5 N E2 h3 (fun h3_=>K (.exit 6) (buildS q1h2 [.n n1,.n g1,.n v1,.i B2,.i g2,.i d0,.f c0,.f b0,.f h1,.f h2,.r h3_,.p h4,.l h5]))
  | _=>none) ((q1gz α N).ls 98 20))
theorem q1h6 {α:Type}(N:Nat):EnvOk Try.prog (q1h5 α N):=(q1h0 N).addLoop2 Try.func98 (by kernel_rfl) (q0ba q0td q0te (q1h0 N) Try.func98 (by kernel_rfl) (d:=1) (ro:=0) fun l K r h=>by
 split at h
 ·exact (q1h4 N _ _ _ _ _ _ _ _ _ _ _ _ _ _ K N _ _).trans h
 ·cases h)
end Go.AM
