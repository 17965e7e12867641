/- FnExactComponentNumbers: the law returns true for all arguments. No conditions. -/
import Derived.Test.YtoginabccpjeoaaPallComponentNumbers1
import Derived.Test.YtoginabccpjeoaaSComponentNumbers
import Derived.Test.YtoginabccpjeoaaMachG
import Derived.Test.YtoginabccpjeoaaRows
set_option linter.unusedVariables false
set_option linter.unusedSimpArgs false
namespace Go.Proofs.Ytoginabccpjeoaa
open Go.ChangeShapes Go.WideShapes Go.ChangeAt Go.RowKit Go.AM
set_option maxRecDepth 100000

theorem Try.own : ownKnob Try.prog.godebug = none := by kernel_rfl
theorem Try.laidOut : laidOutB Try.prog = true := by kernel_rfl

theorem law_of {base : Nat} (W : World) {cs0 : Array Value} {v0 : Value} (A0 : AggIn Try.prog W base 24 [.one [.i64], .many .u8 8, .many .u8 8] v0 cs0) :
    Calls Try.prog 3 #[.agg cs0] W fun e W' => e = .returned (.bool true) ∧ Below W.heap.size W W' ∧ ∀ a, W'.frozen? a = W.frozen? a := by
  refine law_calls prog_mixed prog_names (E_w_eqInt64SS_s4_ok 200) (d := 1) (args := (buildS w_FnExactComponentNumbers_a [.i (numAt cs0 0), .f fun j => numAt cs0 (1 + j), .f fun j => numAt cs0 (9 + j)]).t) (h' := []) ?_ rfl (fun i => ?_) W
  · exact (w_FnExactComponentNumbers_run 200 _ _ _ _).trans (w_FnExactComponentNumbers_val none (by omega) _ _ _ (A0.bytes 1 8 rfl) (A0.bytes 9 8 rfl) _)
  · match i with
    | 0 => exact A0.rel
    | i + 1 => exact .undef _

set_option maxRecDepth 100000 in
theorem law_lifted (os : Os) (started : os.Started) (H : Type) (enc : TypeId × Value → H) :
    ReturnsInHanded {} Try.checked os 3 .any (Rows.fnExactComponentNumbersSpec.pre6 enc Try.prog Try.f3 Rows.fnExactComponentNumbersRow.domain false) (Rows.fnExactComponentNumbersSpec.post enc Try.prog Try.f3 false true false false) := by
  refine returnsInHanded_of_change (C := Try.checked) Try.own started (by kernel_rfl) Try.func3
    (ChangeSpec.witness6 (enc := enc) (C := Try.checked) false ⟨#[], #[.agg (#[.int .i64 0] ++ Array.replicate 8 (.int .u8 0) ++ Array.replicate 8 (.int .u8 0))], []⟩ 80 (by kernel_rfl) (by kernel_rfl) (by kernel_rfl) (by kernel_rfl)) ?_
  intro W base args ds gs before hval0 hW hcnd _
  have hval : ∀ (j : Nat) t v, Try.f3.params[j]? = some t → args[j]? = some v → Value.okWide Try.prog W .any base t v := hval0
  have hW' := hW
  obtain ⟨p, q, hA0, hV, rfl, hfz, hnd⟩ := hW
  have hA : DataW.TrodAll enc Try.prog W 0 (fun _ => true) true Try.f3.params.toList args.toList ds p := hA0
  rw [Try.params3] at hA hval
  obtain ⟨v0, d0, rfl, rfl, h0⟩ := trodAll_one hA
  obtain ⟨rfl, rfl⟩ := trodVars_none hV
  have hlt : ∀ x, x ∈ (p) → x.block < W.heap.size := fun x hx => by simpa using hW'.lt x (by simpa using hx)
  obtain ⟨cs0, A0⟩ := okWide_aggB [.one [.i64], .many .u8 8, .many .u8 8] Try.underlying24 rfl (by kernel_rfl) (hval 0 24 v0 rfl rfl)
  obtain rfl := A0.eq
  refine (law_of (base := base) W A0).mono fun e W' ⟨he, hb, hfr⟩ => ?_
  subst he
  exact ⟨_, rfl, post_of_same (pa := p) (pv := []) hW' (fun _ _ _ => trodAll_mk1 (shut_bool Try.underlying4 true)) (fun sp hsp => trodAll_mk1 (WideElems.Trod_stays Try.laidOut (by kernel_rfl) (of_decide_eq_true (by kernel_rfl)) h0 (fun x hx => hb.same (hlt x (by simp [hx]))) fun x hx => hsp x (by simp [hx])))
    (fun _ _ => rfl) (by simp) (Below.frame hb _) hfr (ok_one (by kernel_rfl) rfl (okWide_bool_mk Try.underlying4 true))⟩

theorem fnExactComponentNumbers_holds : Rows.FnExactComponentNumbersSaid :=
  OpenClaim.holds_of_wide 3 Try.f3 rfl rfl rfl rfl rfl rfl rfl ⟨rfl, rfl, rfl, rfl, rfl⟩ rfl rfl rfl rfl rfl (by kernel_rfl) Try.func3 (by kernel_rfl)
    (of_decide_eq_true (by kernel_rfl)) (by unfold Func.isWrapper; first | (rw [if_pos (by decide +kernel)]; kernel_rfl) | (rw [if_neg (by decide +kernel)]; exact ⟨rfl, rfl⟩))
    (fun os started H enc _ => law_lifted os started H enc)

end Go.Proofs.Ytoginabccpjeoaa
