/- FnExactLedTo: the law returns true for all arguments. No conditions. -/
import Derived.Test.YtijijnfmcmeioaaPLedTo
import Derived.Test.YtijijnfmcmeioaaSLedTo
import Derived.Test.YtijijnfmcmeioaaAMTop2
import Derived.Test.YtijijnfmcmeioaaRows
namespace Go.Proofs.Ytijijnfmcmeioaa
open Go.ChangeShapes Go.WideShapes Go.ChangeAt Go.RowKit Go.AM
set_option maxRecDepth 100000

theorem Try.own : ownKnob Try.prog.godebug = none := by kernel_rfl
theorem Try.laidOut : laidOutB Try.prog = true := by kernel_rfl

theorem law_of {base : Nat} (W : World) {cs0 : Array Value} {v0 : Value} (A0 : AggIn Try.prog W base 24 [.one [.i64], .many .u8 8, .many .u8 8] v0 cs0) {cs1 : Array Value} {v1 : Value} (A1 : AggIn Try.prog W base 22 [.many .u8 8] v1 cs1) {cs2 : Array Value} {v2 : Value} (A2 : AggIn Try.prog W base 46 [.many .i64 6] v2 cs2) :
    Calls Try.prog 6 #[.agg cs0, .agg cs1, .agg cs2] W fun e W' => e = .returned (.bool true) ∧ Below W.heap.size W W' ∧ ∀ a, W'.frozen? a = W.frozen? a := by
  refine law_calls prog_mixed prog_names (E_w_eqState_ok 100) (d := 1) (args := (buildS w_FnExactLedTo_a [.i (numAt cs0 0), .f fun j => numAt cs0 (1 + j), .f fun j => numAt cs0 (9 + j), .f fun j => numAt cs1 (0 + j), .f fun j => numAt cs2 (0 + j)]).t) (h' := []) ?_ rfl (fun i => ?_) W
  · exact (w_FnExactLedTo_run 100 _ _ _ _ _ _).trans (w_FnExactLedTo_val none (by omega) _ _ _ _ _ (A0.bytes 1 8 rfl) (A0.bytes 9 8 rfl) (A1.bytes 0 8 rfl) _)
  · match i with
    | 0 => exact A0.rel
    | 1 => exact A1.rel
    | 2 => exact A2.rel
    | i + 3 => exact .undef _

set_option maxRecDepth 100000 in
theorem law_lifted (os : Os) (started : os.Started) (H : Type) (enc : TypeId × Value → H) :
    ReturnsInHanded {} Try.checked os 6 .any (Rows.fnExactLedToSpec.pre6 enc Try.prog Try.f6 Rows.fnExactLedToRow.domain false) (Rows.fnExactLedToSpec.post enc Try.prog Try.f6 false true false false) := by
  refine returnsInHanded_of_change (C := Try.checked) Try.own started (by kernel_rfl) Try.func6
    (ChangeSpec.witness6 (enc := enc) (C := Try.checked) false ⟨#[], #[.agg (#[.int .i64 0] ++ Array.replicate 8 (.int .u8 0) ++ Array.replicate 8 (.int .u8 0)), .agg (Array.replicate 8 (.int .u8 0)), .agg (Array.replicate 6 (.int .i64 0))], []⟩ 80 (by kernel_rfl) (by kernel_rfl) (by kernel_rfl) (by kernel_rfl)) ?_
  intro W base args ds gs before hval0 hW hcnd _
  have hval : ∀ (j : Nat) t v, Try.f6.params[j]? = some t → args[j]? = some v → Value.okWide Try.prog W .any base t v := hval0
  have hW' := hW
  obtain ⟨p, q, hA0, hV, rfl, hfz, hnd⟩ := hW
  have hA : DataW.TrodAll enc Try.prog W 0 (fun _ => true) true Try.f6.params.toList args.toList ds p := hA0
  rw [Try.params6] at hA hval
  obtain ⟨v0, v1, v2, d0, d1, d2, p0, p1, p2, rfl, rfl, rfl, h0, h1, h2⟩ := trodAll_three hA
  obtain ⟨rfl, rfl⟩ := trodVars_none hV
  have hlt : ∀ x, x ∈ (p0 ++ (p1 ++ p2)) → x.block < W.heap.size := fun x hx => by simpa using hW'.lt x (by simpa using hx)
  obtain ⟨cs0, A0⟩ := okWide_aggB [.one [.i64], .many .u8 8, .many .u8 8] Try.underlying24 rfl (by kernel_rfl) (hval 0 24 v0 rfl rfl)
  obtain rfl := A0.eq
  obtain ⟨cs1, A1⟩ := okWide_aggB [.many .u8 8] Try.underlying22 rfl (by kernel_rfl) (hval 1 22 v1 rfl rfl)
  obtain rfl := A1.eq
  obtain ⟨cs2, A2⟩ := okWide_aggB [.many .i64 6] Try.underlying46 rfl (by kernel_rfl) (hval 2 46 v2 rfl rfl)
  obtain rfl := A2.eq
  refine (law_of (base := base) W A0 A1 A2).mono fun e W' ⟨he, hb, hfr⟩ => ?_
  subst he
  exact ⟨_, rfl, post_of_same (pa := p0 ++ (p1 ++ p2)) (pv := []) hW' (fun _ _ _ => trodAll_mk1 (shut_bool Try.underlying4 true)) (fun sp hsp => trodAll_mk3 (WideElems.Trod_stays Try.laidOut (by kernel_rfl) (of_decide_eq_true (by kernel_rfl)) h0 (fun x hx => hb.same (hlt x (by simp [hx]))) fun x hx => hsp x (by simp [hx])) (WideElems.Trod_stays Try.laidOut (by kernel_rfl) (of_decide_eq_true (by kernel_rfl)) h1 (fun x hx => hb.same (hlt x (by simp [hx]))) fun x hx => hsp x (by simp [hx])) (WideElems.Trod_stays Try.laidOut (by kernel_rfl) (of_decide_eq_true (by kernel_rfl)) h2 (fun x hx => hb.same (hlt x (by simp [hx]))) fun x hx => hsp x (by simp [hx])))
    (fun _ _ => rfl) (by simp) (Below.frame hb _) hfr (ok_one (by kernel_rfl) rfl (okWide_bool_mk Try.underlying4 true))⟩

theorem fnExactLedTo_holds : Rows.FnExactLedToSaid :=
  OpenClaim.holds_of_wide 6 Try.f6 rfl rfl rfl rfl rfl rfl rfl ⟨rfl, rfl, rfl, rfl, rfl⟩ rfl rfl rfl rfl rfl (by kernel_rfl) Try.func6 (by kernel_rfl)
    (of_decide_eq_true (by kernel_rfl)) (by unfold Func.isWrapper; first | (rw [if_pos (by decide +kernel)]; kernel_rfl) | (rw [if_neg (by decide +kernel)]; exact ⟨rfl, rfl⟩))
    (fun os started H enc _ => law_lifted os started H enc)

end Go.Proofs.Ytijijnfmcmeioaa
