/- A part of a proof about the given program: an abstract machine, what the given functions come to, and plain laws. -/
import Derived.Test.YtoginabccpjeoaaSLawMovesC
set_option linter.unusedVariables false
set_option linter.unusedSimpArgs false
set_option maxRecDepth 100000
set_option maxHeartbeats 4000000
namespace Go.AM
open Go.Proofs
def q1jj:SPat:=⟨[.sliceV 0 0 0 1 false,.undef,.undef,.ptr ⟨⟨1,0⟩,0,0,1⟩,.ptr ⟨⟨2,0⟩,0,0,6⟩,.bool,.undef,.undef,.undef,.ptr ⟨⟨3,0⟩,0,0,1⟩,.int .i64]++List.replicate 277 .undef,[[.intsV .u8],[.vals [.int .i64],.ints .u8 8,.ints .u8 8],[.ints .i64 6],[.vals [.int .i64],.ints .u8 8,.ints .u8 8]]⟩
def q1jk:SPat:=⟨[.undef,.undef,.bool]++List.replicate 285 .undef,[[.intsV .u8],[.vals [.int .i64],.ints .u8 8,.ints .u8 8],[.ints .i64 6],[.vals [.int .i64],.ints .u8 8,.ints .u8 8]]⟩
theorem q1jl {α:Type}(N o1 j1 q1:Nat)(t5:Bool)(p0:Int)(l0:Nat)(h0:NI)(m0:Int)(f0 e0 h2:NI)(z0:Int)(x0 y0:NI)(K:St->Option α):
  tailK Try.prog (q1jh α N) 1 1 9 Try.f9 12 4 [2] (buildS q1jj [.n o1,.n j1,.n q1,.b t5,.i p0,.n l0,.f h0,.i m0,.f f0,.f e0,.f h2,.i z0,.f x0,.f y0]) K=q0mh none N o1 j1 q1 t5 p0 l0 h0 m0 f0 e0 h2 z0 x0 y0 (fun r2_=>K (buildS q1jk [.b r2_,.n l0,.f h0,.i m0,.f f0,.f e0,.f h2,.i z0,.f x0,.f y0])):=by kernel_rfl
noncomputable def q1jm (α:Type)(N:Nat):Env α:=(q1jh α N).addLoop 9 1000012 (cutSum 4 [0,3,4,5,9,10] 1 q1jj (fun l K=>match l with
  | [.n o1,.n j1,.n q1,.b t5,.i p0,.n l0,.f h0,.i m0,.f f0,.f e0,.f h2,.i z0,.f x0,.f y0]=>q0mh none N o1 j1 q1 t5 p0 l0 h0 m0 f0 e0 h2 z0 x0 y0 (fun r2_=>K (buildS q1jk [.b r2_,.n l0,.f h0,.i m0,.f f0,.f e0,.f h2,.i z0,.f x0,.f y0]))
  | _=>none))
theorem q1jn {α:Type}(N:Nat):EnvOk Try.prog (q1jm α N):=(q1ji N).addCut q0td q0te Try.func9 (by kernel_rfl) (by kernel_rfl) (ret:=[2]) (d:=1) fun l K r h=>by
 split at h
 ·exact (q1jl N _ _ _ _ _ _ _ _ _ _ _ _ _ _ K).trans h
 ·cases h
end Go.AM
