/- A part of a proof about the given program: an abstract machine, what the given functions come to, and plain laws. -/
import Derived.Test.YtkboldcnkkolkaaAMNew
namespace Go.AM
theorem evalO_op {h : Heap} {μ : LMap} {t : List AV} {a : Act} {op : Op} {x : Operand} (hx : ∀ x, x ∈ op.operands → VR h μ (evalO t x) (a.eval x)) (hm : x ∈ op.operands) : VR h μ (evalO t x) (a.eval x) := hx x hm
section
variable {α : Type} {P : Program} {r : α} {ro : Nat} {op : Op} {t : List AV} {h : Heap}

theorem sameVal_VR {v : AV} {c : Value} (hs : sameVal v c = true) (h : Heap) (μ : LMap) : VR h μ v c ∧ isOne v = true ∧ c.oneCell' = true := by
  unfold sameVal at hs
  split at hs
  · simp only [Bool.and_eq_true, beq_iff_eq] at hs
    obtain ⟨⟨h1, rfl⟩, h3⟩ := hs
    have := keq_eq h1
    subst this
    exact ⟨.int _ _ h3, rfl, rfl⟩
  · rename_i b c
    have : b = c := by simpa using hs
    subst this
    exact ⟨.bool _, rfl, rfl⟩
  · rename_i s x
    split at hs
    · rename_i h1 h2
      have : x = ⟨[].toArray⟩ := by
        cases x with | mk d =>
        simp only at h2
        congr 1
        exact Array.toList_inj.1 (by simpa using h2)
      rw [this]
      exact ⟨.str [], rfl, rfl⟩
    · cases hs
  · exact ⟨.nils, rfl, rfl⟩
  · cases hs

theorem sameVals_VR : ∀ {vs : List AV} {cs : List Value}, sameVals vs cs = true → vs.length = cs.length ∧ ∀ (i : Nat) (u : AV), vs[i]? = some u → isOne u = true ∧ ∃ c, cs[i]? = some c ∧ c.oneCell' = true ∧ ∀ (h : Heap) (μ : LMap), VR h μ u c
  | [], [], _ => ⟨rfl, fun i u hu => by simp at hu⟩
  | [], _ :: _, hs => by simp [sameVals] at hs
  | _ :: _, [], hs => by simp [sameVals] at hs
  | v :: vs, c :: cs, hs => by
    simp only [sameVals] at hs
    cases hc : sameVal v c with
    | false => simp [hc] at hs
    | true =>
      simp only [hc, cond_true] at hs
      obtain ⟨h1, h2⟩ := sameVals_VR hs
      refine ⟨by simp [h1], fun i u hu => ?_⟩
      cases i with
      | zero =>
        simp at hu
        subst hu
        exact ⟨(sameVal_VR hc [] (fun _ => .absent)).2.1, c, rfl, (sameVal_VR hc [] (fun _ => .absent)).2.2, fun h μ => (sameVal_VR hc h μ).1⟩
      | succ i => simpa using h2 i u (by simpa using hu)

theorem zeroOf_spec {ty : TypeId} {ss : List AV} (hz : zeroOf P ty = some ss) : ∃ i z, P.info? ty = some i ∧ i.zero = some z ∧ (flat ss).length = z.cells.size ∧
    ∀ (j : Nat) (u : AV), (flat ss)[j]? = some u → isOne u = true ∧ ∃ c, z.cells[j]? = some c ∧ c.oneCell' = true ∧ ∀ (h : Heap) (μ : LMap), VR h μ u c := by
  unfold zeroOf at hz
  split at hz
  · rename_i ss' z h1 h2
    cases hc : sameVals (ss'.flatMap segValsOf) z.cells.toList with
    | false => simp [hc] at hz
    | true =>
      simp only [hc, cond_true, Option.some.injEq] at hz
      subst hz
      cases hi : P.info? ty with
      | none => simp [hi] at h2
      | some i =>
        simp only [hi, Option.bind_some] at h2
        obtain ⟨e1, e2⟩ := sameVals_VR hc
        exact ⟨i, z, rfl, h2, e1.trans (by simp), fun j u hu => by simpa using e2 j u hu⟩
  · cases hz

theorem run_zeroValue {ty : TypeId} {i : TypeInfo} {z : Value} (hi : P.info? ty = some i) (hz : i.zero = some z) (w : World) : (zeroValue ty).run P w = .ok z w := by
  simp [zeroValue, typeInfo, hi, hz]

theorem alloc_sound {e : TypeId} {ss : List AV} (hz : zeroOf P e = some ss) (hne : ss.isEmpty = false) (hp : isPool ss = false) : OpSem P ro (.alloc e) t h (.ptr (newPlace h ss)) (h ++ [ss]) := by
  obtain ⟨i, z, hi, hzz, hlen, hvs⟩ := zeroOf_spec hz
  refine .of_value fun o a w μ ho _ H => ?_
  obtain ⟨r1, r2⟩ := H.alloc hp (w' := { w with heap := w.heap.push (.cells z.cells e) }) (ss := ss) rfl rfl rfl rfl (by omega) (fun i u hu => by
    obtain ⟨_, c, e1, e2, e3⟩ := hvs i u hu
    exact ⟨c, e1, e2, e3 _ _⟩)
  refine ⟨_, _, _, ?_, VR.newPtr hp (by rintro rfl; simp at hne), r1, r2⟩
  simp [execOp, ho, Instr.alloc, run_zeroValue hi hzz, Sem.run_bind, run_newVar]

theorem box_agg_sound {e : TypeId} {x : Operand} {ss : List AV} (hx : evalO t x = .agg ss) (h0 : 0 < lenOf ss) (h1 : onesB ss = true) (hp : isPool ss = false) : OpSem P ro (.box e x) t h (.ptr (newPlace h ss)) (h ++ [ss]) := by
  refine .of_value fun o a w μ ho hop H => ?_
  have hv := hop x (by simp [Op.operands])
  rw [hx] at hv
  obtain ⟨w', μ', e1, e2, e3, e4⟩ := H.box (P := P) hv (fun i u hu => onesB_spec h1 hu) (by
    intro he
    have := congrArg List.length he
    simp only [cellsOfAV, flat_length, List.length_nil] at this
    omega) e (ss := ss) hp rfl
  exact ⟨_, w', μ', by simp [execOp, ho, Instr.box, e1], e4, e2, e3⟩

theorem box_one_sound {e : TypeId} {x : Operand} {v : AV} (hx : evalO t x = v) (h1 : isOne v = true) : OpSem P ro (.box e x) t h (.ptr (newPlace h [.vals [v]])) (h ++ [[.vals [v]]]) := by
  refine .of_value fun o a w μ ho hop H => ?_
  have hv := hop x (by simp [Op.operands])
  rw [hx] at hv
  have hcv : cellsOfAV v = [v] := by cases v <;> first | rfl | simp [isOne] at h1
  obtain ⟨w', μ', e1, e2, e3, e4⟩ := H.box (P := P) hv (fun i u hu => by
    rw [hcv] at hu
    cases i with
    | zero => simp at hu; rw [← hu]; exact h1
    | succ i => simp at hu) (by rw [hcv]; simp) e (ss := [.vals [v]]) rfl (by rw [hcv]; rfl)
  exact ⟨_, w', μ', by simp [execOp, ho, Instr.box, e1], e4, e2, e3⟩

theorem VR.ptr_c {μ : LMap} {p : Place} {c : Value} (hv : VR h μ (.ptr p) c) : ∃ a, c = .pointer (some a) := by
  cases hv with | ptr _ a _ _ _ _ => exact ⟨a, rfl⟩

theorem loadAt_sound {ty : TypeId} {p : Place} {K : AV → Option α} (he : loadAt P ty p h K = some r) : ∃ v, K v = some r ∧ LoadSem P ty p h v := by
  unfold loadAt at he
  split at he
  · rename_i fs hu; exact loadAgg_sound hu (.inl ⟨fs, rfl⟩) he
  · rename_i n e hu; exact loadAgg_sound hu (.inr ⟨n, e, rfl⟩) he
  · rename_i d h1 h2 hu; exact loadCell_sound hu (fun fs e => h1 fs e) (fun n e' e => h2 n e' e) he
  · cases he

theorem load_sound {ty : TypeId} {x : Operand} {p : Place} {v : AV} (hx : evalO t x = .ptr p) (hl : LoadSem P ty p h v) : OpSem P ro (.load ty x) t h v h := by
  refine .of_pure fun o a w μ ho hop H => ?_
  have hv := hop x (by simp [Op.operands])
  rw [hx] at hv
  obtain ⟨ad, hc⟩ := hv.ptr_c
  rw [hc] at hv
  obtain ⟨c, e1, e2⟩ := hl ro μ w ad hv H
  exact ⟨c, by simp [execOp, ho, Instr.loadAt, Instr.sureAddr, hc, e1], e2⟩

theorem store_sound {ty : TypeId} {x y : Operand} {p : Place} {h' : Heap} (hx : evalO t x = .ptr p) (hs : StoreSem P ro ty p (evalO t y) h h') : OpSem P ro (.store ty x y) t h .undef h' := by
  intro o a w μ next Q ho hop H hn
  have hv := hop x (by simp [Op.operands])
  have hy := hop y (by simp [Op.operands])
  rw [hx] at hv
  obtain ⟨ad, hc⟩ := hv.ptr_c
  rw [hc] at hv
  obtain ⟨w', e1, e2, e3⟩ := hs μ w ad _ hv hy H
  have hr : (execOp a.eval o).run P w = .ok .skip w' := by simp [execOp, ho, Instr.storeAt, Instr.sureAddr, hc, e1]
  unfold Oper.wp
  rw [hr]
  exact hn μ w' _ (.undef _) e2 e3

/-- A store behind a ghost step. -/
theorem storeG_sound {ty : TypeId} {x y : Operand} {p : Place} {h1 h' : Heap} {v' : AV} (hx : evalO t x = .ptr p)
    (hg : ∀ (μ : LMap) (w : World), HR ro h μ w → ∃ μ', HR ro h1 μ' w ∧ Ext ro h μ w h1 μ' w ∧ ∀ c, VR h μ (evalO t y) c → VR h1 μ' v' c) (hs : StoreSem P ro ty p v' h1 h') : OpSem P ro (.store ty x y) t h .undef h' := by
  intro o a w μ next Q ho hop H hn
  have hv := hop x (by simp [Op.operands])
  have hy := hop y (by simp [Op.operands])
  rw [hx] at hv
  obtain ⟨ad, hc⟩ := hv.ptr_c
  rw [hc] at hv
  obtain ⟨μ1, H1, X1, V1⟩ := hg μ w H
  obtain ⟨w', e1, e2, e3⟩ := hs μ1 w ad _ (hv.mono X1.le) (V1 _ hy) H1
  have hr : (execOp a.eval o).run P w = .ok .skip w' := by simp [execOp, ho, Instr.storeAt, Instr.sureAddr, hc, e1]
  unfold Oper.wp
  rw [hr]
  exact hn μ1 w' _ (.undef _) e2 (X1.trans e3)

theorem VR.rptr_c {μ : LMap} {p : Place} {k : Nat} {c : Value} (hv : VR h μ (.rptr p k) c) : ∃ a, c = .pointer (some a) := by
  cases hv with | rptr _ _ a _ _ _ _ => exact ⟨a, rfl⟩
theorem loadR_sound {ty : TypeId} {x : Operand} {p : Place} {k : Nat} {v : AV} (hx : evalO t x = .rptr p k) (hl : LoadSemR P ty p k h v) : OpSem P ro (.load ty x) t h v h := by
  refine .of_pure fun o a w μ ho hop H => ?_
  have hv := hop x (by simp [Op.operands])
  rw [hx] at hv
  obtain ⟨ad, hc⟩ := hv.rptr_c
  rw [hc] at hv
  obtain ⟨c, e1, e2⟩ := hl ro μ w ad hv H
  exact ⟨c, by simp [execOp, ho, Instr.loadAt, Instr.sureAddr, hc, e1], e2⟩
theorem storeR_sound {ty : TypeId} {x y : Operand} {p : Place} {k : Nat} {h' : Heap} (hx : evalO t x = .rptr p k) (hs : StoreSem P ro ty { p with o := p.o + k } (evalO t y) h h') : OpSem P ro (.store ty x y) t h .undef h' := by
  intro o a w μ next Q ho hop H hn
  have hv := hop x (by simp [Op.operands])
  have hy := hop y (by simp [Op.operands])
  rw [hx] at hv
  obtain ⟨ad, hc⟩ := hv.rptr_c
  rw [hc] at hv
  obtain ⟨w', e1, e2, e3⟩ := hs μ w ad _ hv.rptr_ptr hy H
  have hr : (execOp a.eval o).run P w = .ok .skip w' := by simp [execOp, ho, Instr.storeAt, Instr.sureAddr, hc, e1]
  unfold Oper.wp
  rw [hr]
  exact hn μ w' _ (.undef _) e2 e3

theorem move_sound {x : Operand} {op : Op} (hop : op = .move x ∨ op = .assign x) : OpSem P ro op t h (evalO t x) h := by
  refine .of_pure fun o a w μ ho hx H => ?_
  rcases hop with rfl | rfl
  · exact ⟨_, by simp [execOp, ho], hx x (by simp [Op.operands])⟩
  · exact ⟨_, by simp [execOp, ho], hx x (by simp [Op.operands])⟩

theorem pick_sound {c x y : Operand} {b : Bool} (hc : evalO t c = .bool b) : OpSem P ro (.pick c x y) t h (if b then evalO t x else evalO t y) h := by
  refine .of_pure fun o a w μ ho hx H => ?_
  have hv := hx c (by simp [Op.operands])
  rw [hc] at hv
  have hcc : a.eval c = .bool b := by
    generalize a.eval c = q at *
    cases hv; rfl
  refine ⟨if b then a.eval x else a.eval y, by simp [execOp, ho, hcc, asBool], ?_⟩
  cases b
  · exact hx y (by simp [Op.operands])
  · exact hx x (by simp [Op.operands])

theorem extract_sound {x : Operand} {vs : List AV} {i : Nat} {v : AV} (hx : evalO t x = .tuple vs) (hi : vs[i]? = some v) : OpSem P ro (.extract x i) t h v h := by
  refine .of_pure fun o a w μ ho hop H => ?_
  have hv := hop x (by simp [Op.operands])
  rw [hx] at hv
  generalize hq : a.eval x = q at *
  cases hv with | tuple _ cs h1 h2 =>
  obtain ⟨hlt, he⟩ := List.getElem?_eq_some_iff.1 hi
  have h3 := h2 i
  rw [show vs.getD i .undef = v by simp [List.getD_eq_getElem?_getD, hi], show cs.getD i Go.undef = cs[i] by simp [Array.getD, h1 ▸ hlt]] at h3
  exact ⟨cs[i], by simp [execOp, ho, hq, Instr.extract, h1 ▸ hlt], h3⟩

theorem nilCheck_ptr_sound {x : Operand} {p : Place} (hx : evalO t x = .ptr p) : OpSem P ro (.nilCheck x) t h (.ptr p) h := by
  refine .of_pure fun o a w μ ho hop H => ?_
  have hv := hop x (by simp [Op.operands])
  rw [hx] at hv
  obtain ⟨ad, hc⟩ := hv.ptr_c
  exact ⟨_, by simp [execOp, ho, hc], hc ▸ hv⟩

theorem nilCheck_func_sound {x : Operand} {f : FuncId} {caps : List AV} (hx : evalO t x = .func f caps) : OpSem P ro (.nilCheck x) t h (.func f caps) h := by
  refine .of_pure fun o a w μ ho hop H => ?_
  have hv := hop x (by simp [Op.operands])
  rw [hx] at hv
  generalize hq : a.eval x = q at *
  cases hv with | func _ _ cs h1 h2 =>
  exact ⟨_, by simp [execOp, ho, hq], .func _ _ _ h1 h2⟩

theorem map_getD {β : Type} {f : Operand → β} {l : List Operand} {i : Nat} {d : β} (hi : i < l.length) : (l.map f).getD i d = f l[i] := by
  simp [List.getD_eq_getElem?_getD, hi]
theorem maps_VR {μ : LMap} {a : Act} {l : Array Operand} (hx : ∀ x, x ∈ l → VR h μ (evalO t x) (a.eval x)) :
    (l.toList.map (evalO t)).length = (l.map a.eval).size ∧ ∀ i, VR h μ ((l.toList.map (evalO t)).getD i .undef) ((l.map a.eval).getD i Go.undef) := by
  refine ⟨by simp, fun i => ?_⟩
  by_cases hi : i < l.size
  · rw [map_getD (by simpa using hi)]
    have : (l.map a.eval).getD i Go.undef = a.eval l[i] := by simp [Array.getD, hi]
    rw [this]
    exact hx _ (by simp)
  · have : (l.toList.map (evalO t)).getD i .undef = .undef := by simp [List.getD_eq_getElem?_getD, hi]
    rw [this]
    exact .undef _

theorem makeFunc_sound {f : FuncId} {first caps : Array Operand} (hf : first.toList.isEmpty = true) : OpSem P ro (.makeFunc (.func f) first caps) t h (.func f (caps.toList.map (evalO t))) h := by
  refine .of_pure fun o a w μ ho hop H => ?_
  have h0 : first = #[] := by
    have : first.toList = [] := by simpa using hf
    exact Array.toList_eq_nil_iff.1 this
  subst h0
  obtain ⟨e1, e2⟩ := maps_VR (l := caps) (a := a) (μ := μ) (h := h) (t := t) (fun x hx => hop x (by simp [Op.operands, hx]))
  exact ⟨_, by simp [execOp, ho, Instr.makeFunc], .func _ _ _ e1 e2⟩

theorem binOp_sound {t_ : List AV} {op : BinOp} {t' t'' : TypeId} {x y : Operand} {v : AV}
    (hb : ∀ (h : Heap) (μ : LMap) (t : TypeId) (xo yo : Operand) (c d : Value) (w : World), VR h μ (evalO t_ x) c → VR h μ (evalO t_ y) d →
      ∃ e, (do eqGuard op t xo yo c d; binOp op t c d : Sem Value).run P w = .ok e w ∧ VR h μ v e) : OpSem P ro (.binOp op t' x y t'') t_ h v h := by
  refine .of_pure fun o a w μ ho hop H => ?_
  obtain ⟨e, e1, e2⟩ := hb h μ t' x y _ _ w (hop x (by simp [Op.operands])) (hop y (by simp [Op.operands]))
  refine ⟨e, ?_, e2⟩
  simp only [execOp, ho]
  rw [Sem.run_bind, e1]
  rfl

theorem unOp_sound {op : UnOp} {t' : TypeId} {x : Operand} {v : AV} (hb : ∀ (h : Heap) (μ : LMap) (c : Value) (w : World), VR h μ (evalO t x) c → ∃ e, (Op.unary op c).run P w = .ok e w ∧ VR h μ v e) :
    OpSem P ro (.unOp op t' x) t h v h := by
  refine .of_pure fun o a w μ ho hop H => ?_
  obtain ⟨e, e1, e2⟩ := hb h μ _ w (hop x (by simp [Op.operands]))
  exact ⟨e, by simp [execOp, ho, e1], e2⟩

theorem convert_sound {s d : TypeId} {x : Operand} {v : AV} (hb : ∀ (h : Heap) (μ : LMap) (c : Value) (w : World), VR h μ (evalO t x) c → ∃ e, (convert s d c).run P w = .ok e w ∧ VR h μ v e) :
    OpSem P ro (.convert s d x) t h v h := by
  refine .of_pure fun o a w μ ho hop H => ?_
  obtain ⟨e, e1, e2⟩ := hb h μ _ w (hop x (by simp [Op.operands]))
  exact ⟨e, by simp [execOp, ho, e1], e2⟩
end
end Go.AM
