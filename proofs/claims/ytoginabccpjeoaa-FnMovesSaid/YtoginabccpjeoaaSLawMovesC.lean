/- A part of a proof about the given program: an abstract machine, what the given functions come to, and plain laws. -/
import Derived.Test.YtoginabccpjeoaaSLawMovesB
set_option linter.unusedVariables false
set_option linter.unusedSimpArgs false
set_option maxRecDepth 100000
set_option maxHeartbeats 4000000
namespace Go.AM
open Go.Proofs
def q1je:SPat:=⟨[.sliceV 0 0 0 1 false,.undef,.undef,.ptr ⟨⟨1,0⟩,0,0,1⟩,.undef,.bool,.undef,.undef,.undef,.ptr ⟨⟨3,0⟩,0,0,1⟩,.int .i64,.undef,.undef,.ptr ⟨⟨4,0⟩,0,0,6⟩,.int .i64]++List.replicate 273 .undef,[[.intsV .u8],[.vals [.int .i64],.ints .u8 8,.ints .u8 8],[.ints .i64 6],[.vals [.int .i64],.ints .u8 8,.ints .u8 8],[.ints .i64 6]]⟩
def q1jf:SPat:=⟨[.undef,.undef,.bool]++List.replicate 285 .undef,[[.intsV .u8],[.vals [.int .i64],.ints .u8 8,.ints .u8 8],[.ints .i64 6],[.vals [.int .i64],.ints .u8 8,.ints .u8 8],[.ints .i64 6]]⟩
theorem q1jg {α:Type}(N o1 j1 q1:Nat)(t5:Bool)(p0 B0:Int)(l0:Nat)(h0:NI)(m0:Int)(f0 e0 h2:NI)(z0:Int)(x0 y0 h4:NI)(K:St->Option α):
  tailK Try.prog (q1jc α N) 1 1 9 Try.f9 16 5 [2] (buildS q1je [.n o1,.n j1,.n q1,.b t5,.i p0,.i B0,.n l0,.f h0,.i m0,.f f0,.f e0,.f h2,.i z0,.f x0,.f y0,.f h4]) K=q0mg none N o1 j1 q1 t5 p0 B0 l0 h0 m0 f0 e0 h2 z0 x0 y0 h4 (fun r2_=>K (buildS q1jf [.b r2_,.n l0,.f h0,.i m0,.f f0,.f e0,.f h2,.i z0,.f x0,.f y0,.f h4])):=by kernel_rfl
noncomputable def q1jh (α:Type)(N:Nat):Env α:=(q1jc α N).addLoop 9 1000016 (cutSum 5 [0,3,5,9,10,13,14] 1 q1je (fun l K=>match l with
  | [.n o1,.n j1,.n q1,.b t5,.i p0,.i B0,.n l0,.f h0,.i m0,.f f0,.f e0,.f h2,.i z0,.f x0,.f y0,.f h4]=>q0mg none N o1 j1 q1 t5 p0 B0 l0 h0 m0 f0 e0 h2 z0 x0 y0 h4 (fun r2_=>K (buildS q1jf [.b r2_,.n l0,.f h0,.i m0,.f f0,.f e0,.f h2,.i z0,.f x0,.f y0,.f h4]))
  | _=>none))
theorem q1ji {α:Type}(N:Nat):EnvOk Try.prog (q1jh α N):=(q1jd N).addCut q0td q0te Try.func9 (by kernel_rfl) (by kernel_rfl) (ret:=[2]) (d:=1) fun l K r h=>by
 split at h
 ·exact (q1jg N _ _ _ _ _ _ _ _ _ _ _ _ _ _ _ _ K).trans h
 ·cases h
end Go.AM
