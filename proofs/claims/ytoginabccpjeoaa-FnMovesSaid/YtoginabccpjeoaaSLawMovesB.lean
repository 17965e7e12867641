/- A part of a proof about the given program: an abstract machine, what the given functions come to, and plain laws. -/
import Derived.Test.YtoginabccpjeoaaSLawMovesA3
import Derived.Test.YtoginabccpjeoaaPallLawMoves1
set_option linter.unusedVariables false
set_option linter.unusedSimpArgs false
set_option maxRecDepth 100000
set_option maxHeartbeats 4000000
namespace Go.AM
open Go.Proofs
noncomputable def q1j7 (α:Type)(N:Nat):Env α:=(q1j5 α N).addSum 63 true (funOr 0 q1ho (fun l K=>match l with
  | [.i g0,.f i0,.f j0]=>q0md none N g0 i0 j0 (fun Q2 R2 S2 h0_ h1_=>retK (buildS q1hq [.n Q2,.n R2,.n S2,.i 0,.p h0_,.r h1_]) K)
  | _=>none) none)
theorem q1j8 {α:Type}(N:Nat):EnvOk Try.prog (q1j7 α N):=(q1j6 N).override (F:=(fun l K=>match l with
  | [.i g0,.f i0,.f j0]=>q0g6 none N g0 i0 j0 (fun C0=>retK (buildS q1hp [.i C0]) K) (fun Q2 R2 S2 C0 h0_ h1_=>retK (buildS q1hq [.n Q2,.n R2,.n S2,.i C0,.p h0_,.r h1_]) K)
  | _=>none)) (rest:=(q1hm α N).sums 63) (by kernel_rfl) fun l K r he=>by
 split at he
 ·exact q0me he
 ·cases he
def q1j9:SPat:=⟨[.undef,.undef,.undef,.ptr ⟨⟨1,0⟩,0,0,1⟩,.undef,.bool,.undef,.undef,.undef,.ptr ⟨⟨3,0⟩,0,0,1⟩,.int .i64,.undef,.undef,.ptr ⟨⟨4,0⟩,0,0,6⟩,.int .i64,.undef,.undef,.undef,.undef,.undef,.undef,.undef,.ptr ⟨⟨9,0⟩,0,0,1⟩,.sliceV 8 0 0 6 false,.ptr ⟨⟨10,0⟩,0,0,1⟩,.int .i64]++List.replicate 262 .undef,[[.intsV .u8],[.vals [.int .i64],.ints .u8 8,.ints .u8 8],[.ints .i64 6],[.vals [.int .i64],.ints .u8 8,.ints .u8 8],[.ints .i64 6],[.vals [.int .i64],.ints .u8 8,.ints .u8 8],[.vec .i64],[.vec .i64],[.vec .i64],[.vals [.int .i64],.ints .u8 8,.ints .u8 8],[.vals [.int .i64],.ints .u8 8,.ints .u8 8]]⟩
def q1ja:SPat:=⟨[.undef,.undef,.bool]++List.replicate 285 .undef,[[.intsV .u8],[.vals [.int .i64],.ints .u8 8,.ints .u8 8],[.ints .i64 6],[.vals [.int .i64],.ints .u8 8,.ints .u8 8],[.ints .i64 6],[.vals [.int .i64],.ints .u8 8,.ints .u8 8],[.vec .i64],[.vec .i64],[.vec .i64],[.vals [.int .i64],.ints .u8 8,.ints .u8 8],[.vals [.int .i64],.ints .u8 8,.ints .u8 8]]⟩
theorem q1jb {α:Type}(N:Nat)(t5:Bool)(p0 B0:Int)(W1 V1 c2:Nat)(q2:Int)(l0:Nat)(h0:NI)(m0:Int)(f0 e0 h2:NI)(z0:Int)(x0 y0 h4:NI)(w0:Int)(o0 n0:NI)(h6 h7 h8:List Int)(G0:Int)(H0 I0:NI)(J0:Int)(K0 L0:NI)(K:St->Option α):
  tailK Try.prog (q1j7 α N) 1 1 9 Try.f9 32 11 [2] (buildS q1j9 [.b t5,.i p0,.i B0,.n W1,.n V1,.n c2,.i q2,.n l0,.f h0,.i m0,.f f0,.f e0,.f h2,.i z0,.f x0,.f y0,.f h4,.i w0,.f o0,.f n0,.l h6,.l h7,.l h8,.i G0,.f H0,.f I0,.i J0,.f K0,.f L0]) K=q0mf none N t5 p0 B0 W1 V1 c2 q2 l0 h0 m0 f0 e0 h2 z0 x0 y0 h4 w0 o0 n0 h6 h7 h8 G0 H0 I0 J0 K0 L0 (fun r2_=>K (buildS q1ja [.b r2_,.n l0,.f h0,.i m0,.f f0,.f e0,.f h2,.i z0,.f x0,.f y0,.f h4,.i w0,.f o0,.f n0,.l h6,.l h7,.l h8,.i G0,.f H0,.f I0,.i J0,.f K0,.f L0])):=by kernel_rfl
noncomputable def q1jc (α:Type)(N:Nat):Env α:=(q1j7 α N).addLoop 9 1000032 (cutSum 11 [3,5,9,10,13,14,22,23,24,25] 1 q1j9 (fun l K=>match l with
  | [.b t5,.i p0,.i B0,.n W1,.n V1,.n c2,.i q2,.n l0,.f h0,.i m0,.f f0,.f e0,.f h2,.i z0,.f x0,.f y0,.f h4,.i w0,.f o0,.f n0,.l h6,.l h7,.l h8,.i G0,.f H0,.f I0,.i J0,.f K0,.f L0]=>q0mf none N t5 p0 B0 W1 V1 c2 q2 l0 h0 m0 f0 e0 h2 z0 x0 y0 h4 w0 o0 n0 h6 h7 h8 G0 H0 I0 J0 K0 L0 (fun r2_=>K (buildS q1ja [.b r2_,.n l0,.f h0,.i m0,.f f0,.f e0,.f h2,.i z0,.f x0,.f y0,.f h4,.i w0,.f o0,.f n0,.l h6,.l h7,.l h8,.i G0,.f H0,.f I0,.i J0,.f K0,.f L0]))
  | _=>none))
theorem q1jd {α:Type}(N:Nat):EnvOk Try.prog (q1jc α N):=(q1j8 N).addCut q0td q0te Try.func9 (by kernel_rfl) (by kernel_rfl) (ret:=[2]) (d:=1) fun l K r h=>by
 split at h
 ·exact (q1jb N _ _ _ _ _ _ _ _ _ _ _ _ _ _ _ _ _ _ _ _ _ _ _ _ _ _ _ _ _ K).trans h
 ·cases h
end Go.AM
