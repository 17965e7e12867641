/- FnExactRunMoves: the law returns true for all arguments. No conditions. -/
import Derived.Test.YtoegbmhbmfiddaaPallRunMoves1
import Derived.Test.YtoegbmhbmfiddaaSRunMoves
import Derived.Test.YtoegbmhbmfiddaaMachG
import Derived.Test.YtoegbmhbmfiddaaRows
set_option linter.unusedVariables false
set_option linter.unusedSimpArgs false
namespace Go.Proofs.Ytoegbmhbmfiddaa
open Go.ChangeShapes Go.WideShapes Go.ChangeAt Go.RowKit Go.AM
set_option maxRecDepth 100000

theorem Try.own : ownKnob Try.prog.godebug = none := by kernel_rfl
theorem Try.laidOut : laidOutB Try.prog = true := by kernel_rfl

theorem law_of {base : Nat} (W : World) {cs0 : Array Value} {v0 : Value} (A0 : AggIn Try.prog W base 33 [.one [.i64], .many .u8 8, .many .u8 8] v0 cs0) {v1 : Value} (S1 : SliceIn W .i64 6 v1) :
    Calls Try.prog 5 #[.agg cs0, v1] W fun e W' => e = .returned (.bool true) ∧ Below W.heap.size W W' ∧ ∀ a, W'.frozen? a = W.frozen? a := by
  refine law_callsH prog_mixed prog_names (E_w_eqMoveS_ok 1048577) (d := 1) (args := (buildS w_FnExactRunMoves_a [.i (numAt cs0 0), .f fun j => numAt cs0 (1 + j), .f fun j => numAt cs0 (9 + j), .n (sliceLen v1 * 6), .n (sliceLen v1), .n (sliceLen v1), .n (sliceLen v1 * 6), .f (cellNumV W v1)]).t) (h' := [[.ints .i64 (sliceLen v1 * 6) (cellNumV W v1)]]) [([.ints .i64 (sliceLen v1 * 6) (cellNumV W v1)], sliceLoc 6 v1)] (blks_cons S1.blk (blks_nil)) ?_ rfl (fun i => ?_)
  · exact (w_FnExactRunMoves_run 1048577 _ _ _ _ _ _ _ _ _).trans (w_FnExactRunMoves_val none (by omega) _ _ _ _ _ _ _ _ (A0.bytes 1 8 rfl) (A0.bytes 9 8 rfl) rfl rfl rfl S1.short _)
  · match i with
    | 0 => exact A0.rel.mono (Le.nil _ _)
    | 1 => exact S1.rel rfl rfl
    | i + 2 => exact .undef _

set_option maxRecDepth 100000 in
theorem law_lifted (os : Os) (started : os.Started) (H : Type) (enc : TypeId × Value → H) :
    ReturnsInHanded {} Try.checked os 5 .any (Rows.fnExactRunMovesSpec.pre6 enc Try.prog Try.f5 Rows.fnExactRunMovesRow.domain false) (Rows.fnExactRunMovesSpec.post enc Try.prog Try.f5 false true false false) := by
  refine returnsInHanded_of_change (C := Try.checked) Try.own started (by kernel_rfl) Try.func5
    (ChangeSpec.witness6 (enc := enc) (C := Try.checked) false ⟨#[], #[.agg (#[.int .i64 0] ++ Array.replicate 8 (.int .u8 0) ++ Array.replicate 8 (.int .u8 0)), .slice none 0 0], []⟩ 80 (by kernel_rfl) (by kernel_rfl) (by kernel_rfl) (by kernel_rfl)) ?_
  intro W base args ds gs before hval0 hW hcnd _
  have hval : ∀ (j : Nat) t v, Try.f5.params[j]? = some t → args[j]? = some v → Value.okWide Try.prog W .any base t v := hval0
  have hW' := hW
  obtain ⟨p, q, hA0, hV, rfl, hfz, hnd⟩ := hW
  have hA : DataW.TrodAll enc Try.prog W 0 (fun _ => true) true Try.f5.params.toList args.toList ds p := hA0
  rw [Try.params5] at hA hval
  obtain ⟨v0, v1, d0, d1, p0, p1, rfl, rfl, rfl, h0, h1⟩ := trodAll_two hA
  obtain ⟨rfl, rfl⟩ := trodVars_none hV
  have hlt : ∀ x, x ∈ (p0 ++ p1) → x.block < W.heap.size := fun x hx => by simpa using hW'.lt x (by simpa using hx)
  obtain ⟨cs0, A0⟩ := okWide_aggB [.one [.i64], .many .u8 8, .many .u8 8] Try.underlying33 rfl (by kernel_rfl) (hval 0 33 v0 rfl rfl)
  obtain rfl := A0.eq
  have S1 := SliceIn.open_ (k := .i64) (es := 6) Try.underlying42 (by kernel_rfl) (hval 1 42 v1 rfl rfl) h1 (fun b off hx => hfz b off (by simp [hx]))
  refine (law_of (base := base) W A0 S1).mono fun e W' ⟨he, hb, hfr⟩ => ?_
  subst he
  exact ⟨_, rfl, post_of_same (pa := p0 ++ p1) (pv := []) hW' (fun _ _ _ => trodAll_mk1 (shut_bool Try.underlying4 true)) (fun sp hsp => trodAll_mk2 (WideElems.Trod_stays Try.laidOut (by kernel_rfl) (of_decide_eq_true (by kernel_rfl)) h0 (fun x hx => hb.same (hlt x (by simp [hx]))) fun x hx => hsp x (by simp [hx])) (WideElems.Trod_stays Try.laidOut (by kernel_rfl) (of_decide_eq_true (by kernel_rfl)) h1 (fun x hx => hb.same (hlt x (by simp [hx]))) fun x hx => hsp x (by simp [hx])))
    (fun _ _ => rfl) (by simp) (Below.frame hb _) hfr (ok_one (by kernel_rfl) rfl (okWide_bool_mk Try.underlying4 true))⟩

theorem fnExactRunMoves_holds : Rows.FnExactRunMovesSaid :=
  OpenClaim.holds_of_wide 5 Try.f5 rfl rfl rfl rfl rfl rfl rfl ⟨rfl, rfl, rfl, rfl, rfl⟩ rfl rfl rfl rfl rfl (by kernel_rfl) Try.func5 (by kernel_rfl)
    (of_decide_eq_true (by kernel_rfl)) (by unfold Func.isWrapper; first | (rw [if_pos (by decide +kernel)]; kernel_rfl) | (rw [if_neg (by decide +kernel)]; exact ⟨rfl, rfl⟩))
    (fun os started H enc _ => law_lifted os started H enc)

end Go.Proofs.Ytoegbmhbmfiddaa
