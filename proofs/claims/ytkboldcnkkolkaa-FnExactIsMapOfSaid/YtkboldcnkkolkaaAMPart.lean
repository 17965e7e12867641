/- A part of a proof about the given program: an abstract machine, what the given functions come to, and plain laws. -/
import Derived.Test.YtkboldcnkkolkaaAMAppend
namespace Go.AM
section
variable {α : Type} {P : Program} {r : α} {ro : Nat} {t : List AV} {h : Heap}

theorem cellOf_spec {seg : AV} {o : Nat} {K : AV → Option α} (he : cellOf seg o K = some r) : ∃ v, K v = some r ∧ (segVals seg)[o]? = some v := by
  unfold cellOf at he
  split at he
  · obtain ⟨hb, hk⟩ := br_fail he
    exact ⟨_, hk, seg_ints (by simpa using hb)⟩
  · obtain ⟨hb, hk⟩ := br_fail he
    exact ⟨_, hk, seg_vec (by simpa using hb)⟩
  · obtain ⟨hb, hk⟩ := br_fail he
    exact ⟨_, hk, seg_bools (by simpa using hb)⟩
  · rename_i vs
    split at he
    · cases he
    · rename_i v hv
      refine ⟨_, he, ?_⟩
      rw [show segVals (.vals vs) = vs from rfl, List.getD_eq_getElem?_getD]
      cases hq : vs[o]? with
      | none => rw [List.getD_eq_getElem?_getD, hq] at hv; exact absurd rfl hv
      | some u => rfl
  · cases he

def isAggD : TypeDesc → Bool
  | .struct _ | .array _ _ => true
  | _ => false

theorem run_isAgg {ty : TypeId} {d : TypeDesc} (hu : P.underlying ty = some d) (w : World) : (isAgg ty).run P w = .ok (isAggD d) w := by
  unfold isAgg
  simp only [Sem.run_bind, run_underlying hu, Result.andThen_ok]
  cases d <;> rfl

theorem goPart_sound {ty : TypeId} {ss : List AV} {off : Nat} {K : AV → Option α} (h0 : 0 < P.cellsOf ty) (he : goPart P ty ss off K = some r) :
    ∃ v, K v = some r ∧ ∀ (h : Heap) (μ : LMap) (cs : Array Value) (w : World), (flat ss).length = cs.size → (∀ i, VR h μ ((flat ss).getD i .undef) (cs.getD i Go.undef)) → ∃ c, (part ty cs off).run P w = .ok c w ∧ VR h μ v c := by
  have aggc : ∀ {d : TypeDesc}, P.underlying ty = some d → (isAggD d) = true → goPart.agg P ty ss off K = some r → ∃ v, K v = some r ∧ ∀ (h : Heap) (μ : LMap) (cs : Array Value) (w : World), (flat ss).length = cs.size → (∀ i, VR h μ ((flat ss).getD i .undef) (cs.getD i Go.undef)) → ∃ c, (part ty cs off).run P w = .ok c w ∧ VR h μ v c := by
    intro d hu hd he
    have fin : ∀ rs : List AV, (flat rs).length = P.cellsOf ty → (∀ i, i < P.cellsOf ty → (flat rs)[i]? = (flat ss)[off + i]?) → ∀ (h : Heap) (μ : LMap) (cs : Array Value) (w : World), (flat ss).length = cs.size → (∀ i, VR h μ ((flat ss).getD i .undef) (cs.getD i Go.undef)) → ∃ c, (part ty cs off).run P w = .ok c w ∧ VR h μ (.agg rs) c := by
      intro rs h1 h2 h μ cs w hlen hv
      refine ⟨_, ?_, .agg rs (cs.extract off (off + P.cellsOf ty)) ?_ fun i => ?_⟩
      · unfold part
        simp only [Sem.run_bind, run_isAgg hu, Result.andThen_ok, hd, if_true, cellsOf_pos h0]
        rfl
      · have hl := h2 (P.cellsOf ty - 1) (by omega)
        rw [List.getElem?_eq_getElem (by omega)] at hl
        have := (List.getElem?_eq_some_iff.1 hl.symm).1
        simp
        omega
      · by_cases hi : i < P.cellsOf ty
        · have e1 := h2 i hi
          have e2 := hv (off + i)
          rw [List.getD_eq_getElem?_getD, e1, ← List.getD_eq_getElem?_getD]
          have e3 : (cs.extract off (off + P.cellsOf ty)).getD i Go.undef = cs.getD (off + i) Go.undef := by
            rw [Array.getD_eq_getD_getElem?, Array.getD_eq_getD_getElem?, Array.getElem?_extract]
            have hl := h2 (P.cellsOf ty - 1) (by omega)
            rw [List.getElem?_eq_getElem (by omega)] at hl
            have := (List.getElem?_eq_some_iff.1 hl.symm).1
            rw [if_pos (by omega)]
          rw [e3]
          exact e2
        · rw [List.getD_eq_getElem?_getD, List.getElem?_eq_none (by omega)]
          exact .undef _
    unfold goPart.agg at he
    split at he
    · rename_i k m k' n f hh _
      obtain ⟨hb, hk⟩ := br_fail he
      simp only [Bool.and_eq_true, Nat.ble_eq] at hb
      have hm := homT_size hh
      have hkk := keq_eq hb.1
      subst hkk
      refine ⟨_, hk, fin _ (by simp [flat, segValsOf, hm]) fun i hi => ?_⟩
      simp only [flat_one]
      rw [seg_ints (by omega), seg_ints (by omega), shiftF_eq]
    · split at he
      · rename_i i n hloc
        split at he
        · rename_i rs htk
          obtain ⟨h1, h2⟩ := takeSegs_spec _ _ _ htk
          obtain ⟨seg, g1, g2, g3, g4⟩ := locate_spec _ _ _ _ _ hloc
          refine ⟨_, he, fin rs h1 fun j hj => ?_⟩
          rw [h2 j hj, ← flat_drop_get]
          congr 1
          omega
        · cases he
      · cases he
  have one : ∀ {d : TypeDesc}, P.underlying ty = some d → (isAggD d) = false → ∀ v, (flat ss)[off]? = some v → ∀ (h : Heap) (μ : LMap) (cs : Array Value) (w : World), (flat ss).length = cs.size → (∀ i, VR h μ ((flat ss).getD i .undef) (cs.getD i Go.undef)) → ∃ c, (part ty cs off).run P w = .ok c w ∧ VR h μ v c := by
    intro d hu hd v hv h μ cs w hlen hvs
    have hlt := (List.getElem?_eq_some_iff.1 hv).1
    have hc : cs[off]? = some cs[off] := by simp [show off < cs.size by omega]
    refine ⟨cs[off], ?_, ?_⟩
    · unfold part
      simp only [Sem.run_bind, run_isAgg hu, Result.andThen_ok, hd, Bool.false_eq_true, if_false, hc]
      rfl
    · have := hvs off
      rw [List.getD_eq_getElem?_getD, hv, Array.getD_eq_getD_getElem?, hc] at this
      exact this
  unfold goPart at he
  split at he
  · rename_i fs hu
    exact aggc hu rfl he
  · rename_i n e hu
    exact aggc hu rfl he
  · rename_i d hd1 hd2 hu
    have hd : (isAggD d) = false := by
      cases d <;> first | rfl | exact absurd rfl (hd1 _) | exact absurd rfl (hd2 _ _)
    split at he
    · rename_i seg
      obtain ⟨v, hk, hv⟩ := cellOf_spec he
      exact ⟨v, hk, one hu hd v (by rw [flat_one]; exact hv)⟩
    · split at he
      · rename_i i q n hloc
        obtain ⟨v, hk, hv⟩ := cellOf_spec he
        obtain ⟨seg, g1, g2, g3, g4⟩ := locate_spec _ _ _ _ _ hloc
        refine ⟨v, hk, one hu hd v ?_⟩
        have hseg : ss.getD i .undef = seg := by rw [List.getD_eq_getElem?_getD, g1]; rfl
        rw [hseg] at hv
        rw [← g4, flat_drop_get, drop_of_get g1, flat_cons, List.getElem?_append_left (by rw [segVals_length]; omega)]
        exact hv
      · cases he
  · cases he

theorem goIndex_sound {ty : TypeId} {x i : Operand} {K : AV → Option α} (he : goIndex P ty (evalO t x) (evalO t i) K = some r) : ∃ v, K v = some r ∧ ∀ (ro : Nat) (h : Heap), OpSem P ro (.index ty x i) t h v h := by
  unfold goIndex at he
  split at he
  · rename_i k n hi
    split at he
    · rename_i len e ss hu hx
      obtain ⟨hb, hk⟩ := br_fail he
      simp only [Bool.and_eq_true, decide_eq_true_eq, Nat.blt_eq] at hb
      obtain ⟨v, hk, hs⟩ := goPart_sound hb.1 hk
      refine ⟨v, hk, fun ro h => .of_pure fun o a w μ ho hop H => ?_⟩
      have v1 := hop x (by simp [Op.operands])
      have v2 := hop i (by simp [Op.operands])
      rw [hx] at v1
      rw [hi] at v2
      generalize hq1 : a.eval x = q1 at *
      generalize hq2 : a.eval i = q2 at *
      cases v2
      cases v1 with | agg _ cs h1 h2 =>
      obtain ⟨c, e1, e2⟩ := hs h μ cs w h1 h2
      refine ⟨c, ?_, e2⟩
      rw [mulS_eq] at e1
      have hc : (0 ≤ n ∧ n < (len : Int)) := ⟨hb.2.1, hb.2.2⟩
      simp only [execOp, ho, hq1, hq2, Instr.index, Sem.run_bind, asIntOf, Sem.run_pure, Result.andThen_ok, run_underlying hu, if_pos hc, cellsOf_pos hb.1]
      rw [show elemSize P e = P.cellsOf e from rfl] at e1
      rw [e1]
      rfl
    · cases he
  · cases he

theorem goField_sound {ty : TypeId} {x : Operand} {f : Nat} {K : AV → Option α} (he : goField P ty (evalO t x) f K = some r) : ∃ v, K v = some r ∧ ∀ (ro : Nat) (h : Heap), OpSem P ro (.field ty x f) t h v h := by
  unfold goField at he
  split at he
  · rename_i fs ss hu hx
    split at he
    · rename_i fd hfd
      obtain ⟨hb, hk⟩ := br_fail he
      rw [Nat.blt_eq] at hb
      obtain ⟨v, hk, hs⟩ := goPart_sound hb hk
      refine ⟨v, hk, fun ro h => .of_pure fun o a w μ ho hop H => ?_⟩
      have v1 := hop x (by simp [Op.operands])
      rw [hx] at v1
      generalize hq1 : a.eval x = q1 at *
      cases v1 with | agg _ cs h1 h2 =>
      obtain ⟨c, e1, e2⟩ := hs h μ cs w h1 h2
      refine ⟨c, ?_, e2⟩
      simp only [execOp, ho, hq1, Instr.field, Sem.run_bind, run_underlying hu, Result.andThen_ok, hfd, asAgg, Sem.run_pure]
      rw [e1]
      rfl
    · cases he
  · cases he
end
end Go.AM
