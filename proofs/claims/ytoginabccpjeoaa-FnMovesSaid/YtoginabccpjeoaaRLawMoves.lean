/- FnMoves: the law returns true for all arguments. No conditions. -/
import Derived.Test.YtoginabccpjeoaaPallLawMoves2
import Derived.Test.YtoginabccpjeoaaSLawMovesms
import Derived.Test.YtoginabccpjeoaaMachG
import Derived.Test.YtoginabccpjeoaaRows
set_option linter.unusedVariables false
set_option linter.unusedSimpArgs false
namespace Go.Proofs.Ytoginabccpjeoaa
open Go.ChangeShapes Go.WideShapes Go.ChangeAt Go.RowKit Go.AM
set_option maxRecDepth 100000
theorem Try.own:ownKnob Try.prog.godebug=none:=by kernel_rfl
theorem Try.laidOut:laidOutB Try.prog=true:=by kernel_rfl
theorem law_of {base:Nat}(W:World){v0:Value}(S0:SliceIn W .u8 1 v0):
  Calls Try.prog 9 #[v0] W fun e W'=>e=.returned (.bool true)∧Below W.heap.size W W'∧∀ a,W'.frozen? a=W.frozen? a:=by
 rcases q0tc (none:Option (AV×Heap)) (N:=6000) (by omega) (sliceLen v0*1) (sliceLen v0) (sliceLen v0) (sliceLen v0*1) (cellNumV W v0) rfl (Nat.mul_one _).symm S0.short S0.bytes with hc
 ·refine q0c3 q0td q0te (q1jn 6000) (d:=1) (args:=(buildS q1jo [.n (sliceLen v0*1),.n (sliceLen v0),.n (sliceLen v0),.n (sliceLen v0*1),.f (cellNumV W v0)]).t) (h':=[[.ints .u8 (sliceLen v0*1) (cellNumV W v0)]]) [([.ints .u8 (sliceLen v0*1) (cellNumV W v0)],sliceLoc 1 v0)] (q0c5 S0.blk (q0c4)) ?_ rfl (fun i=>?_)
  ·exact (q1jq 6000 _ _ _ _ _ _).trans (hc _)
  ·match i with
   | 0=>exact S0.rel rfl rfl
   | i+1=>exact .undef _
set_option maxRecDepth 100000 in
theorem law_lifted (os:Os)(started:os.Started)(H:Type)(enc:TypeId×Value->H):
  ReturnsInHanded {} Try.checked os 9 .any (Rows.fnMovesSpec.pre6 enc Try.prog Try.f9 Rows.fnMovesRow.domain false) (Rows.fnMovesSpec.post enc Try.prog Try.f9 false true false false):=by
 refine returnsInHanded_of_change (C:=Try.checked) Try.own started (by kernel_rfl) Try.func9
  (ChangeSpec.witness6 (enc:=enc) (C:=Try.checked) false ⟨#[],#[.slice none 0 0],[]⟩ 80 (by kernel_rfl) (by kernel_rfl) (by kernel_rfl) (by kernel_rfl)) ?_
 intro W base args ds gs before hval0 hW hcnd _
 have hval:∀ (j:Nat) t v,Try.f9.params[j]?=some t->args[j]?=some v->Value.okWide Try.prog W .any base t v:=hval0
 have hW':=hW
 obtain ⟨p,q,hA0,hV,rfl,hfz,hnd⟩:=hW
 have hA:DataW.TrodAll enc Try.prog W 0 (fun _=>true) true Try.f9.params.toList args.toList ds p:=hA0
 rw [Try.params9] at hA hval
 obtain ⟨v0,d0,rfl,rfl,h0⟩:=trodAll_one hA
 obtain ⟨rfl,rfl⟩:=trodVars_none hV
 have hlt:∀ x,x∈(p)->x.block<W.heap.size:=fun x hx=>by simpa using hW'.lt x (by simpa using hx)
 have S0:=SliceIn.open_ (k:=.u8) (es:=1) Try.underlying33 (by kernel_rfl) (hval 0 33 v0 rfl rfl) h0 (fun b off hx=>hfz b off (by simp [hx]))
 refine (law_of (base:=base) W S0).mono fun e W' ⟨he,hb,hfr⟩=>?_
 subst he
 exact ⟨_,rfl,post_of_same (pa:=p) (pv:=[]) hW' (fun _ _ _=>trodAll_mk1 (shut_bool Try.underlying4 true)) (fun sp hsp=>trodAll_mk1 (WideElems.Trod_stays Try.laidOut (by kernel_rfl) (of_decide_eq_true (by kernel_rfl)) h0 (fun x hx=>hb.same (hlt x (by simp [hx]))) fun x hx=>hsp x (by simp [hx])))
  (fun _ _=>rfl) (by simp) (Below.frame hb _) hfr (ok_one (by kernel_rfl) rfl (okWide_bool_mk Try.underlying4 true))⟩
theorem fnMoves_holds:Rows.FnMovesSaid:=
 OpenClaim.holds_of_wide 9 Try.f9 rfl rfl rfl rfl rfl rfl rfl ⟨rfl,rfl,rfl,rfl,rfl⟩ rfl rfl rfl rfl rfl (by kernel_rfl) Try.func9 (by kernel_rfl)
  (of_decide_eq_true (by kernel_rfl)) (by unfold Func.isWrapper;first | (rw [if_pos (by decide +kernel)];kernel_rfl) | (rw [if_neg (by decide +kernel)];exact ⟨rfl,rfl⟩))
  (fun os started H enc _=>law_lifted os started H enc)
end Go.Proofs.Ytoginabccpjeoaa
