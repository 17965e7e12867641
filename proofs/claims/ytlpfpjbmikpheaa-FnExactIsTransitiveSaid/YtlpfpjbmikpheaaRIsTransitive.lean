/- FnExactIsTransitive: the law returns true for all arguments. No conditions. -/
import Derived.Test.YtlpfpjbmikpheaaPTransitive
import Derived.Test.YtlpfpjbmikpheaaSIsTransitive
import Derived.Test.YtlpfpjbmikpheaaAMTop3
import Derived.Test.YtlpfpjbmikpheaaRows
namespace Go.Proofs.Ytlpfpjbmikpheaa
open Go.ChangeShapes Go.WideShapes Go.ChangeAt Go.RowKit Go.AM
set_option maxRecDepth 100000

theorem Try.own : ownKnob Try.prog.godebug = none := by kernel_rfl
theorem Try.laidOut : laidOutB Try.prog = true := by kernel_rfl

theorem law_of {base : Nat} (W : World) {x0 : Int} (hx0 : fits .i64 x0 = true) {v1 : Value} (S1 : SliceIn W .u8 4 v1) :
    Calls Try.prog 12 #[.int .i64 x0, v1] W fun e W' => e = .returned (.bool true) ∧ Below W.heap.size W W' ∧ ∀ a, W'.frozen? a = W.frozen? a := by
  refine law_callsH prog_mixed prog_names (E_w_eqPlacesS_ok 2000000) (d := 1) (args := (buildS w_FnExactIsTransitive_a [.i x0, .n (sliceLen v1 * 4), .n (sliceLen v1), .n (sliceLen v1), .n (sliceLen v1 * 4), .f (cellNumV W v1)]).t) (h' := [[.ints .u8 (sliceLen v1 * 4) (cellNumV W v1)]]) [([.ints .u8 (sliceLen v1 * 4) (cellNumV W v1)], sliceLoc 4 v1)] (blks_cons S1.blk (blks_nil)) ?_ rfl (fun i => ?_)
  · exact (w_FnExactIsTransitive_run 2000000 _ _ _ _ _ _ _).trans (w_FnExactIsTransitive_val none (by omega) _ _ _ _ _ _ rfl rfl rfl S1.short S1.bytes _)
  · match i with
    | 0 => exact .int _ _ hx0
    | 1 => exact S1.rel rfl rfl
    | i + 2 => exact .undef _

set_option maxRecDepth 100000 in
theorem law_lifted (os : Os) (started : os.Started) (H : Type) (enc : TypeId × Value → H) :
    ReturnsInHanded {} Try.checked os 12 .any (Rows.fnExactIsTransitiveSpec.pre6 enc Try.prog Try.f12 Rows.fnExactIsTransitiveRow.domain false) (Rows.fnExactIsTransitiveSpec.post enc Try.prog Try.f12 false true false false) := by
  refine returnsInHanded_of_change (C := Try.checked) Try.own started (by kernel_rfl) Try.func12
    (ChangeSpec.witness6 (enc := enc) (C := Try.checked) false ⟨#[], #[.int .i64 0, .slice none 0 0], []⟩ 80 (by kernel_rfl) (by kernel_rfl) (by kernel_rfl) (by kernel_rfl)) ?_
  intro W base args ds gs before hval0 hW hcnd _
  have hval : ∀ (j : Nat) t v, Try.f12.params[j]? = some t → args[j]? = some v → Value.okWide Try.prog W .any base t v := hval0
  have hW' := hW
  obtain ⟨p, q, hA0, hV, rfl, hfz, hnd⟩ := hW
  have hA : DataW.TrodAll enc Try.prog W 0 (fun _ => true) true Try.f12.params.toList args.toList ds p := hA0
  rw [Try.params12] at hA hval
  obtain ⟨v0, v1, d0, d1, p0, p1, rfl, rfl, rfl, h0, h1⟩ := trodAll_two hA
  obtain ⟨rfl, rfl⟩ := trodVars_none hV
  have hlt : ∀ x, x ∈ (p0 ++ p1) → x.block < W.heap.size := fun x hx => by simpa using hW'.lt x (by simpa using hx)
  obtain ⟨x0, rfl, hx0⟩ := okWide_num Try.underlying2 (hval 0 2 v0 rfl rfl)
  have S1 := SliceIn.open_ (k := .u8) (es := 4) Try.underlying59 (by kernel_rfl) (hval 1 59 v1 rfl rfl) h1 (fun b off hx => hfz b off (by simp [hx]))
  refine (law_of (base := base) W hx0 S1).mono fun e W' ⟨he, hb, hfr⟩ => ?_
  subst he
  exact ⟨_, rfl, post_of_same (pa := p0 ++ p1) (pv := []) hW' (fun _ _ _ => trodAll_mk1 (shut_bool Try.underlying4 true)) (fun sp hsp => trodAll_mk2 (WideElems.Trod_stays Try.laidOut (by kernel_rfl) (of_decide_eq_true (by kernel_rfl)) h0 (fun x hx => hb.same (hlt x (by simp [hx]))) fun x hx => hsp x (by simp [hx])) (WideElems.Trod_stays Try.laidOut (by kernel_rfl) (of_decide_eq_true (by kernel_rfl)) h1 (fun x hx => hb.same (hlt x (by simp [hx]))) fun x hx => hsp x (by simp [hx])))
    (fun _ _ => rfl) (by simp) (Below.frame hb _) hfr (ok_one (by kernel_rfl) rfl (okWide_bool_mk Try.underlying4 true))⟩

theorem fnExactIsTransitive_holds : Rows.FnExactIsTransitiveSaid :=
  OpenClaim.holds_of_wide 12 Try.f12 rfl rfl rfl rfl rfl rfl rfl ⟨rfl, rfl, rfl, rfl, rfl⟩ rfl rfl rfl rfl rfl (by kernel_rfl) Try.func12 (by kernel_rfl)
    (of_decide_eq_true (by kernel_rfl)) (by unfold Func.isWrapper; first | (rw [if_pos (by decide +kernel)]; kernel_rfl) | (rw [if_neg (by decide +kernel)]; exact ⟨rfl, rfl⟩))
    (fun os started H enc _ => law_lifted os started H enc)

end Go.Proofs.Ytlpfpjbmikpheaa
