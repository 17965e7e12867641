/- A part of a proof about the given program: an abstract machine, what the given functions come to, and plain laws. -/
import Derived.Test.YtoginabccpjeoaaSLawMovesCc
set_option linter.unusedVariables false
set_option linter.unusedSimpArgs false
set_option maxRecDepth 100000
set_option maxHeartbeats 4000000
namespace Go.AM
open Go.Proofs
def q1jo:SPat:=⟨[.sliceV 0 0 0 1 false],[[.intsV .u8]]⟩
def q1jp:SPat:=⟨[.bool],[[.intsV .u8]]⟩
theorem q1jq {α:Type}(N o1 j1 q1 l0:Nat)(h0:NI)(K:AV->Heap->Option α):
  callK Try.prog (q1jm α N) 1 9 1 (buildS q1jo [.n o1,.n j1,.n q1,.n l0,.f h0]).t (buildS q1jo [.n o1,.n j1,.n q1,.n l0,.f h0]).h K=q0mi none N o1 j1 q1 l0 h0 (fun r__=>retK (buildS q1jp [.b r__,.n l0,.f h0]) K):=by kernel_rfl
end Go.AM
