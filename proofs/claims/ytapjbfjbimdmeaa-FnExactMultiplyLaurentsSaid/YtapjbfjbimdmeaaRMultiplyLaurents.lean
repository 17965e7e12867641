/- FnExactMultiplyLaurents: the law returns true for all arguments. No conditions. -/
import Derived.Test.YtapjbfjbimdmeaaPallMultiplyLaurents1
import Derived.Test.YtapjbfjbimdmeaaSMulRoots
import Derived.Test.YtapjbfjbimdmeaaMachG
import Derived.Test.YtapjbfjbimdmeaaRows
set_option linter.unusedVariables false
set_option linter.unusedSimpArgs false
namespace Go.Proofs.Ytapjbfjbimdmeaa
open Go.ChangeShapes Go.WideShapes Go.ChangeAt Go.RowKit Go.AM
set_option maxRecDepth 100000

theorem Try.own : ownKnob Try.prog.godebug = none := by kernel_rfl
theorem Try.laidOut : laidOutB Try.prog = true := by kernel_rfl

theorem law_of {base : Nat} (W : World) {x0 : Int} {s0 v0 : Value} (B0 : PairIn W .i64 .i64 1 v0 x0 s0) {x1 : Int} {s1 v1 : Value} (B1 : PairIn W .i64 .i64 1 v1 x1 s1) :
    Calls Try.prog 3 #[.agg #[.int .i64 x0, s0], .agg #[.int .i64 x1, s1]] W fun e W' => e = .returned (.bool true) ∧ Below W.heap.size W W' ∧ ∀ a, W'.frozen? a = W.frozen? a := by
  have hL := (fits_iff .i64 x0).1 B0.fit
  rcases w_Mul_or (none : Option (AV × Heap)) (N := 2000001) (by omega) x0 (sliceLen s0 * 1) (sliceLen s0) (sliceLen s0) x1 (sliceLen s1 * 1) (sliceLen s1) (sliceLen s1) (sliceLen s0 * 1) (cellNumV W s0) (sliceLen s1 * 1) (cellNumV W s1) hL B0.sl.short B1.sl.short rfl rfl rfl rfl rfl rfl with hc | hc
  · refine law_callsH prog_mixed prog_names (E_mulI_nil_ok 2000001) (d := 1) (args := (buildS w_FnExactMultiplyLaurents_a [.i x0, .n (sliceLen s0 * 1), .n (sliceLen s0), .n (sliceLen s0), .i x1, .n (sliceLen s1 * 1), .n (sliceLen s1), .n (sliceLen s1), .n (sliceLen s0 * 1), .f (cellNumV W s0), .n (sliceLen s1 * 1), .f (cellNumV W s1)]).t) (h' := [[.ints .i64 (sliceLen s0 * 1) (cellNumV W s0)], [.ints .i64 (sliceLen s1 * 1) (cellNumV W s1)]]) [([.ints .i64 (sliceLen s0 * 1) (cellNumV W s0)], sliceLoc 1 s0), ([.ints .i64 (sliceLen s1 * 1) (cellNumV W s1)], sliceLoc 1 s1)] (blks_cons B0.sl.blk (blks_cons B1.sl.blk (blks_nil))) ?_ rfl (fun i => ?_)
    · exact (w_MulNil_run 2000001 _ _ _ _ _ _ _ _ _ _ _ _ _).trans (hc _)
    · match i with
      | 0 => exact B0.rel rfl rfl
      | 1 => exact B1.rel rfl rfl
      | i + 2 => exact .undef _
  · refine law_callsH prog_mixed prog_names (E_mulI_sl_ok 2000001) (d := 1) (args := (buildS w_FnExactMultiplyLaurents_a [.i x0, .n (sliceLen s0 * 1), .n (sliceLen s0), .n (sliceLen s0), .i x1, .n (sliceLen s1 * 1), .n (sliceLen s1), .n (sliceLen s1), .n (sliceLen s0 * 1), .f (cellNumV W s0), .n (sliceLen s1 * 1), .f (cellNumV W s1)]).t) (h' := [[.ints .i64 (sliceLen s0 * 1) (cellNumV W s0)], [.ints .i64 (sliceLen s1 * 1) (cellNumV W s1)]]) [([.ints .i64 (sliceLen s0 * 1) (cellNumV W s0)], sliceLoc 1 s0), ([.ints .i64 (sliceLen s1 * 1) (cellNumV W s1)], sliceLoc 1 s1)] (blks_cons B0.sl.blk (blks_cons B1.sl.blk (blks_nil))) ?_ rfl (fun i => ?_)
    · exact (w_MulSl_run 2000001 _ _ _ _ _ _ _ _ _ _ _ _ _).trans (hc _)
    · match i with
      | 0 => exact B0.rel rfl rfl
      | 1 => exact B1.rel rfl rfl
      | i + 2 => exact .undef _

set_option maxRecDepth 100000 in
theorem law_lifted (os : Os) (started : os.Started) (H : Type) (enc : TypeId × Value → H) :
    ReturnsInHanded {} Try.checked os 3 .any (Rows.fnExactMultiplyLaurentsSpec.pre6 enc Try.prog Try.f3 Rows.fnExactMultiplyLaurentsRow.domain false) (Rows.fnExactMultiplyLaurentsSpec.post enc Try.prog Try.f3 false true false false) := by
  refine returnsInHanded_of_change (C := Try.checked) Try.own started (by kernel_rfl) Try.func3
    (ChangeSpec.witness6 (enc := enc) (C := Try.checked) false ⟨#[], #[.agg #[.int .i64 0, .slice none 0 0], .agg #[.int .i64 0, .slice none 0 0]], []⟩ 80 (by kernel_rfl) (by kernel_rfl) (by kernel_rfl) (by kernel_rfl)) ?_
  intro W base args ds gs before hval0 hW hcnd _
  have hval : ∀ (j : Nat) t v, Try.f3.params[j]? = some t → args[j]? = some v → Value.okWide Try.prog W .any base t v := hval0
  have hW' := hW
  obtain ⟨p, q, hA0, hV, rfl, hfz, hnd⟩ := hW
  have hA : DataW.TrodAll enc Try.prog W 0 (fun _ => true) true Try.f3.params.toList args.toList ds p := hA0
  rw [Try.params3] at hA hval
  obtain ⟨v0, v1, d0, d1, p0, p1, rfl, rfl, rfl, h0, h1⟩ := trodAll_two hA
  obtain ⟨rfl, rfl⟩ := trodVars_none hV
  have hlt : ∀ x, x ∈ (p0 ++ p1) → x.block < W.heap.size := fun x hx => by simpa using hW'.lt x (by simpa using hx)
  obtain ⟨x0, s0, B0⟩ := PairIn.open_ (k0 := .i64) (k := .i64) (es := 1) (t1 := 22) (e := 2) Try.underlying24 ⟨rfl, rfl, (by kernel_rfl), (by kernel_rfl)⟩ (by kernel_rfl) rfl (by kernel_rfl) (by kernel_rfl) (by kernel_rfl) (by kernel_rfl) (hval 0 24 v0 rfl rfl) h0 (fun b off hx => hfz b off (by simp [hx]))
  obtain rfl := B0.eq
  obtain ⟨x1, s1, B1⟩ := PairIn.open_ (k0 := .i64) (k := .i64) (es := 1) (t1 := 22) (e := 2) Try.underlying24 ⟨rfl, rfl, (by kernel_rfl), (by kernel_rfl)⟩ (by kernel_rfl) rfl (by kernel_rfl) (by kernel_rfl) (by kernel_rfl) (by kernel_rfl) (hval 1 24 v1 rfl rfl) h1 (fun b off hx => hfz b off (by simp [hx]))
  obtain rfl := B1.eq
  refine (law_of (base := base) W B0 B1).mono fun e W' ⟨he, hb, hfr⟩ => ?_
  subst he
  exact ⟨_, rfl, post_of_same (pa := p0 ++ p1) (pv := []) hW' (fun _ _ _ => trodAll_mk1 (shut_bool Try.underlying4 true)) (fun sp hsp => trodAll_mk2 (WideElems.Trod_stays Try.laidOut (by kernel_rfl) (of_decide_eq_true (by kernel_rfl)) h0 (fun x hx => hb.same (hlt x (by simp [hx]))) fun x hx => hsp x (by simp [hx])) (WideElems.Trod_stays Try.laidOut (by kernel_rfl) (of_decide_eq_true (by kernel_rfl)) h1 (fun x hx => hb.same (hlt x (by simp [hx]))) fun x hx => hsp x (by simp [hx])))
    (fun _ _ => rfl) (by simp) (Below.frame hb _) hfr (ok_one (by kernel_rfl) rfl (okWide_bool_mk Try.underlying4 true))⟩

theorem fnExactMultiplyLaurents_holds : Rows.FnExactMultiplyLaurentsSaid :=
  OpenClaim.holds_of_wide 3 Try.f3 rfl rfl rfl rfl rfl rfl rfl ⟨rfl, rfl, rfl, rfl, rfl⟩ rfl rfl rfl rfl rfl (by kernel_rfl) Try.func3 (by kernel_rfl)
    (of_decide_eq_true (by kernel_rfl)) (by unfold Func.isWrapper; first | (rw [if_pos (by decide +kernel)]; kernel_rfl) | (rw [if_neg (by decide +kernel)]; exact ⟨rfl, rfl⟩))
    (fun os started H enc _ => law_lifted os started H enc)

end Go.Proofs.Ytapjbfjbimdmeaa
