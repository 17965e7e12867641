/- A part of a proof about the given program: an abstract machine, what the given functions come to, and plain laws. -/
import Derived.Test.YtkboldcnkkolkaaAMOpK
namespace Go.AM
section
variable {α : Type} {P : Program} {r : α} {ro : Nat} {t : List AV} {h : Heap}

abbrev shapeB (ss : Blk) : List (Nat × Nat) := ss.map shapeS
theorem getD_shape (l : Blk) (s : Nat) : shapeS (l.getD s .undef) = (shapeB l).getD s (0, 0) := by
  simp only [List.getD_eq_getElem?_getD, List.getElem?_map]
  cases l[s]? <;> rfl
theorem getSeg_shape {h2 : Heap} {b : Key} (e : shapeB (blkD h b) = shapeB (blkD h2 b)) (s : Nat) : segLen (getSeg h b s) = segLen (getSeg h2 b s) ∧ segK (getSeg h b s) = segK (getSeg h2 b s) := by
  have : shapeS (getSeg h b s) = shapeS (getSeg h2 b s) := by unfold getSeg; rw [getD_shape, getD_shape, e]
  exact ⟨congrArg Prod.fst this, congrArg Prod.snd this⟩
theorem locate_shape : ∀ {l l2 : List AV} (o : Nat), shapeB l = shapeB l2 → locate l o = locate l2 o := by
  intro l
  induction l with
  | nil => intro l2 o e; cases l2 with
    | nil => rfl
    | cons => simp at e
  | cons s l ih =>
    intro l2 o e
    cases l2 with
    | nil => simp at e
    | cons s2 l2 =>
      simp only [List.map_cons, List.cons.injEq] at e
      have e1 : segLen s = segLen s2 := congrArg Prod.fst e.1
      simp only [locate, e1, ih _ e.2]
theorem movePlace_shape {β : Type} {h2 : Heap} {p : Place} {off : Nat} {same : Bool} {K : Place → Option β} (e : shapeB (blkD h p.b) = shapeB (blkD h2 p.b)) : movePlace h p off same K = movePlace h2 p off same K := by
  unfold movePlace
  rw [(getSeg_shape e p.s).1, locate_shape (l := (blkD h p.b).drop p.s) (l2 := (blkD h2 p.b).drop p.s) _ (by simp only [shapeB, List.map_drop] at e ⊢; rw [e])]

/-- What is handed on is one value, whatever comes behind. -/
def Uni {γ : Type} (F : (β : Type) → (γ → Option β) → Option β) : Prop := (∃ v, ∀ β K, F β K = K v) ∨ ∀ β K, F β K = none
theorem Uni.get {γ : Type} {F : (β : Type) → (γ → Option β) → Option β} (hF : Uni F) {K : γ → Option α} (he : F α K = some r) : ∃ v, K v = some r ∧ ∀ β K, F β K = K v := by
  rcases hF with ⟨v, hv⟩ | hn
  · exact ⟨v, by rw [← hv α K]; exact he, hv⟩
  · rw [hn] at he; cases he
theorem Uni.one {γ : Type} (v : γ) : Uni fun _ K => K v := .inl ⟨v, fun _ _ => rfl⟩
theorem Uni.no {γ : Type} : Uni (γ := γ) fun _ _ => none := .inr fun _ _ => rfl
theorem Uni.br {γ : Type} {b : Bool} {F : (β : Type) → (γ → Option β) → Option β} (hF : Uni F) : Uni fun β K => AM.br b (F β K) none := by
  cases b
  · exact .no
  · exact hF
theorem Uni.pick {γ : Type} {b : Bool} {F G : (β : Type) → (γ → Option β) → Option β} (hF : Uni F) (hG : Uni G) : Uni fun β K => AM.br b (F β K) (G β K) := by
  cases b
  · exact hG
  · exact hF
theorem Uni.map {γ δ : Type} {F : (β : Type) → (γ → Option β) → Option β} (hF : Uni F) (g : γ → δ) : Uni fun β K => F β fun v => K (g v) := by
  rcases hF with ⟨v, hv⟩ | hn
  · exact .inl ⟨g v, fun β K => hv β _⟩
  · exact .inr fun β K => hn β _
theorem movePlace_uni (h : Heap) (p : Place) (off : Nat) (same : Bool) : Uni fun _ K => movePlace h p off same K := by
  unfold movePlace
  refine .pick (.one _) (.br ?_)
  rcases locate ((blkD h p.b).drop p.s) (p.o + off) with _ | ⟨i, q, n⟩
  · exact .no
  · exact .one _

theorem goFieldAddr_uni (ty : TypeId) (v : AV) (f : Nat) (h : Heap) : Uni fun _ K => goFieldAddr P ty v f h K := by
  unfold goFieldAddr
  rcases P.underlying ty with _ | d
  · exact .no
  · cases d <;> try exact .no
    cases v <;> try exact .no
    rename_i fs p
    simp only
    rcases fs[f]? with _ | fd
    · exact .no
    · refine .br ?_
      cases isRec (getSeg h p.b p.s)
      · exact (movePlace_uni _ _ _ _).map _
      · exact .br (.one _)
theorem goFieldAddr_shape {β : Type} {ty : TypeId} {v : AV} {f : Nat} {h2 : Heap} {K : AV → Option β} (e : ∀ b, blkOf v = some b → shapeB (blkD h b) = shapeB (blkD h2 b)) : goFieldAddr P ty v f h K = goFieldAddr P ty v f h2 K := by
  unfold goFieldAddr
  rcases P.underlying ty with _ | d
  · rfl
  · cases d <;> try rfl
    cases v <;> try rfl
    rename_i fs p
    simp only
    rcases fs[f]? with _ | fd
    · rfl
    · have e := e p.b rfl
      have e3 : isRec (getSeg h p.b p.s) = isRec (getSeg h2 p.b p.s) := by unfold isRec; rw [(getSeg_shape e p.s).2]
      simp only [(getSeg_shape e p.s).1, e3, movePlace_shape e]
theorem goIndexAddr_uni (ty : TypeId) (v i : AV) (h : Heap) : Uni fun _ K => goIndexAddr P ty v i h K := by
  unfold goIndexAddr
  cases i <;> try exact .no
  simp only
  rcases P.underlying ty with _ | d
  · exact .no
  · cases d <;> try exact .no
    all_goals cases v <;> try exact .no
    all_goals exact .br ((movePlace_uni _ _ _ _).map _)
theorem goIndexAddr_shape {β : Type} {ty : TypeId} {v i : AV} {h2 : Heap} {K : AV → Option β} (e : ∀ b, blkOf v = some b → shapeB (blkD h b) = shapeB (blkD h2 b)) : goIndexAddr P ty v i h K = goIndexAddr P ty v i h2 K := by
  unfold goIndexAddr
  cases i <;> try rfl
  simp only
  rcases P.underlying ty with _ | d
  · rfl
  · cases d <;> try rfl
    all_goals cases v <;> try rfl
    all_goals first
      | (rename_i p _ _ _ _
         have e := e (Place.b p) rfl
         have e3 : oneSeg (getSeg h (Place.b p) p.s) = oneSeg (getSeg h2 (Place.b p) p.s) := by unfold oneSeg; rw [(getSeg_shape e p.s).2]
         simp only [(getSeg_shape e p.s).1, e3, movePlace_shape e])
      | (rename_i p
         have e := e (Place.b p) rfl
         simp only [movePlace_shape e])

theorem loadCell_uni (p : Place) (h : Heap) : Uni fun _ K => loadCell p h K := by
  unfold loadCell
  cases getSeg h p.b p.s <;> first | exact .no | exact .br (.one _) | skip
  refine .br ?_
  rename_i vs
  generalize vs.getD p.o .undef = v
  cases v <;> first | exact .no | exact .one _
theorem loadVals_uni (ty : TypeId) (p : Place) (h : Heap) : Uni fun _ K => loadAgg.loadVals P ty p h K := by
  unfold loadAgg.loadVals
  cases getSeg h p.b p.s <;> first | exact .no | exact .br (.one _)
theorem loadAgg_uni (ty : TypeId) (p : Place) (h : Heap) : Uni fun _ K => loadAgg P ty p h K := by
  unfold loadAgg
  rcases homT P ty with _ | ⟨k, m⟩
  · simp only
    have : Uni fun (β : Type) (K : AV → Option β) => match p.o with
      | 0 => match takeSegs ((blkD h p.b).drop p.s) (P.cellsOf ty) with
        | some ss => br (Nat.beq p.n (segLen (getSeg h p.b p.s))) (K (.agg ss)) none
        | none => loadAgg.loadVals P ty p h K
      | _ + 1 => loadAgg.loadVals P ty p h K := by
      cases p.o with
      | succ => exact loadVals_uni _ _ _
      | zero =>
        simp only
        cases takeSegs ((blkD h p.b).drop p.s) (P.cellsOf ty) with
        | none => exact loadVals_uni _ _ _
        | some ss => exact .br (.one _)
    cases hs : getSeg h p.b p.s <;> rw [hs] at this <;> first | exact .br (.one _) | exact this
  · simp only
    cases getSeg h p.b p.s <;> first | exact .no | exact .br (.one _)
theorem loadAt_uni (ty : TypeId) (p : Place) (h : Heap) : Uni fun _ K => loadAt P ty p h K := by
  unfold loadAt
  rcases P.underlying ty with _ | d
  · exact .no
  · cases d <;> first | exact loadAgg_uni _ _ _ | exact loadCell_uni _ _
theorem loadRec_uni (ty : TypeId) (p : Place) (c : Nat) (h : Heap) : Uni fun _ K => loadRec P ty p c h K := by
  unfold loadRec
  rcases P.underlying ty with _ | d
  · exact .no
  · cases d <;> first | exact .no | (simp only; cases getSeg h p.b p.s <;> first | exact .no | exact .br (.one _))
theorem getSeg_blk {h2 : Heap} {b : Key} (e : blkD h b = blkD h2 b) (s : Nat) : getSeg h b s = getSeg h2 b s := by unfold getSeg; rw [e]
theorem loadAt_blk {β : Type} {ty : TypeId} {p : Place} {h2 : Heap} {K : AV → Option β} (e : blkD h p.b = blkD h2 p.b) : loadAt P ty p h K = loadAt P ty p h2 K := by
  unfold loadAt loadAgg loadCell loadAgg.loadVals
  rw [getSeg_blk e p.s, e]
theorem loadRec_blk {β : Type} {ty : TypeId} {p : Place} {c : Nat} {h2 : Heap} {K : AV → Option β} (e : blkD h p.b = blkD h2 p.b) : loadRec P ty p c h K = loadRec P ty p c h2 K := by
  unfold loadRec
  rw [getSeg_blk e p.s]

theorem blk_of_VR {μ : LMap} {v : AV} {c : Value} {b : Key} (hv : VR h μ v c) (hb : blkOf v = some b) : ∃ ss, blk? h b = some ss := by
  cases hv <;> simp only [blkOf, Option.some.injEq, reduceCtorEq] at hb
  case ptr h1 _ _ => subst hb; exact segLenAt_has h1
  case rptr h1 _ _ => subst hb; exact segLenAt_has h1
  case slice h1 _ _ _ => subst hb; exact segLenAt_has h1

/-- Two heaps have blocks of the same shape where a value leads to. -/
def SameAt (h h2 : Heap) (v : AV) : Prop := ∀ b, blkOf v = some b → ∀ ss, blk? h2 b = some ss → ∃ ss0, blk? h b = some ss0 ∧ shapeB ss0 = shapeB ss
theorem SameAt.get {h2 : Heap} {v : AV} (hs : SameAt h h2 v) {μ : LMap} {c : Value} (hv : VR h2 μ v c) : ∀ b, blkOf v = some b → shapeB (blkD h2 b) = shapeB (blkD h b) := by
  intro b hb
  obtain ⟨ss, e1⟩ := blk_of_VR hv hb
  obtain ⟨ss0, e2, e3⟩ := hs b hb ss e1
  rw [blkD_of e1, blkD_of e2, e3]

/-- A look at a pointer, in heaps of the same shape. -/
theorem opQ_sound {gv : Bool} {call : FuncId → Sum α} {op : Op} (hq : isQ op = true) {K : AV → Heap → Option α} (he : opK P gv ro call op t h K = some r) :
    ∃ v, K v h = some r ∧ ∀ (ro' : Nat) (h2 : Heap), (∀ x, x ∈ op.operands → SameAt h h2 (evalO t x)) → OpSem P ro' op t h2 v h2 := by
  cases op <;> simp only [isQ, Bool.false_eq_true] at hq
  case nilCheck x =>
    simp only [opK] at he
    split at he
    · rename_i p hx
      exact ⟨_, he, fun _ _ _ => nilCheck_ptr_sound hx⟩
    · rename_i f caps hx
      exact ⟨_, he, fun _ _ _ => nilCheck_func_sound hx⟩
    · cases he
  case fieldAddr ty x f =>
    simp only [opK] at he
    obtain ⟨v, hk, hu⟩ := (goFieldAddr_uni (P := P) ty (evalO t x) f h).get (K := fun v => K v h) he
    refine ⟨v, hk, fun ro' h2 hs o a w μ next Q ho hop H hn => ?_⟩
    have hm : x ∈ (Op.fieldAddr ty x f).operands := by simp [Op.operands]
    have e := goFieldAddr_shape (P := P) (β := AV) (ty := ty) (f := f) (K := some) ((hs x hm).get (hop x hm))
    rw [hu] at e
    obtain ⟨v', hk', hsem⟩ := goFieldAddr_sound (ro := ro') e
    cases hk'
    exact hsem o a w μ next Q ho hop H hn
  case indexAddr ty x i =>
    simp only [opK] at he
    obtain ⟨v, hk, hu⟩ := (goIndexAddr_uni (P := P) ty (evalO t x) (evalO t i) h).get (K := fun v => K v h) he
    refine ⟨v, hk, fun ro' h2 hs o a w μ next Q ho hop H hn => ?_⟩
    have hm : x ∈ (Op.indexAddr ty x i).operands := by simp [Op.operands]
    have e := goIndexAddr_shape (P := P) (β := AV) (ty := ty) (i := evalO t i) (K := some) ((hs x hm).get (hop x hm))
    rw [hu] at e
    obtain ⟨v', hk', hsem⟩ := goIndexAddr_sound (ro := ro') e
    cases hk'
    exact hsem o a w μ next Q ho hop H hn

/-- Two heaps have the same block where a value leads to. -/
def SameBlk (h h2 : Heap) (v : AV) : Prop := ∀ b, blkOf v = some b → ∀ ss, blk? h2 b = some ss → blk? h b = some ss
theorem SameBlk.get {h2 : Heap} {v : AV} (hs : SameBlk h h2 v) {μ : LMap} {c : Value} (hv : VR h2 μ v c) : ∀ b, blkOf v = some b → blkD h2 b = blkD h b := by
  intro b hb
  obtain ⟨ss, e1⟩ := blk_of_VR hv hb
  rw [blkD_of e1, blkD_of (hs b hb ss e1)]

/-- A load, in heaps with the same block. -/
theorem opL_sound {gv : Bool} {call : FuncId → Sum α} {op : Op} (hq : isL op = true) {K : AV → Heap → Option α} (he : opK P gv ro call op t h K = some r) :
    ∃ v, K v h = some r ∧ ∀ (ro' : Nat) (h2 : Heap), (∀ x, x ∈ op.operands → SameBlk h h2 (evalO t x)) → OpSem P ro' op t h2 v h2 := by
  cases op <;> simp only [isL, Bool.false_eq_true] at hq
  case load ty x =>
    simp only [opK] at he
    have hm : x ∈ (Op.load ty x).operands := by simp [Op.operands]
    split at he
    · rename_i p hx
      obtain ⟨v, hk, hu⟩ := (loadAt_uni (P := P) ty p h).get (K := fun v => K v h) he
      refine ⟨v, hk, fun ro' h2 hs o a w μ next Q ho hop H hn => ?_⟩
      have hv := hop x hm
      have hs := hs x hm
      rw [hx] at hv hs
      have e := loadAt_blk (P := P) (β := AV) (ty := ty) (K := some) (hs.get hv p.b rfl)
      rw [hu] at e
      obtain ⟨v', hk', hl⟩ := loadAt_sound e
      cases hk'
      exact load_sound (ro := ro') hx hl o a w μ next Q ho hop H hn
    · rename_i p c hx
      obtain ⟨v, hk, hu⟩ := (loadRec_uni (P := P) ty p c h).get (K := fun v => K v h) he
      refine ⟨v, hk, fun ro' h2 hs o a w μ next Q ho hop H hn => ?_⟩
      have hv := hop x hm
      have hs := hs x hm
      rw [hx] at hv hs
      have e := loadRec_blk (P := P) (β := AV) (ty := ty) (c := c) (K := some) (hs.get hv p.b rfl)
      rw [hu] at e
      obtain ⟨v', hk', hl⟩ := loadRec_sound e
      cases hk'
      exact loadR_sound (ro := ro') hx hl o a w μ next Q ho hop H hn
    · cases he

/-- A new variable, in heaps of the same length. -/
theorem opA_sound {gv : Bool} {call : FuncId → Sum α} {op : Op} (hq : isA op = true) {K : AV → Heap → Option α} (he : opK P gv ro call op t h K = some r) :
    ∃ v bs, K v (h ++ bs) = some r ∧ ∀ (ro' : Nat) (h2 : Heap), h2.length = h.length → OpSem P ro' op t h2 v (h2 ++ bs) := by
  cases op <;> simp only [isA, Bool.false_eq_true] at hq
  case alloc e =>
    simp only [opK] at he
    split at he
    · rename_i ss hz
      obtain ⟨hb, hk⟩ := br_fail he
      refine ⟨_, _, hk, fun ro' h2 hl => ?_⟩
      simp only [Bool.and_eq_true, Bool.not_eq_true'] at hb
      have := alloc_sound (P := P) (ro := ro') (t := t) (h := h2) hz hb.1 hb.2
      rw [show newPlace h ss = newPlace h2 ss from by unfold newPlace; rw [hl]]
      exact this
    · cases he
  case buildSlice ty n ps =>
    split at hq
    · rename_i hps
      simp only [opK, hps, List.map_nil] at he
      have key : ∀ {β : Type} (h2 : Heap) (K2 : AV → Heap → Option β), goBuildSlice P ty n [] h2 K2 = match P.underlying ty with
        | some (.slice e) => match tableOf P e [] with
          | some k => br (Nat.ble n 65536) (K2 (.slice ⟨topK (h2.length + 1), 0, 0, n⟩ n n 1 true) (h2 ++ [[.pool k (List.replicate n [])], [.hdr h2.length ((List.range n).map fun i => (i, 0))]])) none
          | none => match zeroRow P true e n with
            | some z => br (Nat.ble (n * elemSize P e) 65536 && Nat.blt 0 (elemSize P e)) (br (!isPool z) (K2 (.slice (newPlace h2 z) n n (elemSize P e) true) (h2 ++ [z])) none) none
            | none => none
        | _ => none := fun h2 K2 => rfl
      have fin : ∀ (v : AV) (bs : List Blk), K v (h ++ bs) = some r → (∀ (h2 : Heap), h2.length = h.length → goBuildSlice P ty n [] h2 (fun v h => some (v, h)) = some (v, h2 ++ bs)) →
          ∃ v bs, K v (h ++ bs) = some r ∧ ∀ (ro' : Nat) (h2 : Heap), h2.length = h.length → OpSem P ro' (.buildSlice ty n ps) t h2 v (h2 ++ bs) := by
        intro v bs hk hall
        refine ⟨v, bs, hk, fun ro' h2 hl => ?_⟩
        have e3 : goBuildSlice P ty n (ps.toList.map fun (i, x) => (i, evalO t x)) h2 (fun v h => some (v, h)) = some (v, h2 ++ bs) := by rw [hps]; exact hall h2 hl
        obtain ⟨v', h', hk', hs⟩ := goBuildSlice_sound (ro := ro') (t := t) e3
        cases hk'
        exact hs
      rw [key] at he
      split at he
      · rename_i e hu
        split at he
        · rename_i k hk
          obtain ⟨hb, hk2⟩ := br_fail he
          refine fin _ _ hk2 fun h2 hl => ?_
          rw [key]
          simp only [hu, hk, hb, br, hl]
        · rename_i hno
          split at he
          · rename_i z hz
            obtain ⟨hb, he2⟩ := br_fail he
            obtain ⟨hb2, hk⟩ := br_fail he2
            refine fin _ _ hk fun h2 hl => ?_
            rw [key]
            simp only [hu, hno, hz, hb, hb2, br]
            rw [show newPlace h z = newPlace h2 z from by unfold newPlace; rw [hl]]
          · cases he
      · cases he
    · cases hq

/-- What a store does: one block is written, which lies somewhere. -/
def PutSem (P : Program) (ro : Nat) (op : Op) (t : List AV) (h : Heap) (b : Key) (h' : Heap) : Prop :=
  ∀ (o : Oper) (a : Act) (w : World) (μ : LMap) (next : Act → World → Prop) (Q : Exit → Act → World → Prop), o.op = op → (∀ x, x ∈ op.operands → VR h μ (evalO t x) (a.eval x)) → HR ro h μ w →
    μ b ≠ .absent ∧ ((∀ w' c, VR h' μ .undef c → HR ro h' μ w' → Ext ro h μ w h' μ w' → next (a.put o.dst c) w') → o.wp P a w next Q)

theorem opS_sound {call : FuncId → Sum α} {ty : TypeId} {x y : Operand} {K : AV → Heap → Option α} (he : opK P false ro call (.store ty x y) t h K = some r) :
    ∃ b old new, K .undef (setB h b new) = some r ∧ blkOf (evalO t x) = some b ∧ blk? h b = some old ∧ fitB b old new ∧ shapeB new = shapeB old ∧ PutSem P ro (.store ty x y) t h b (setB h b new) := by
  have key : ∀ (p : Place) (h' : Heap) (V : AV), evalO t x = V → blkOf V = some p.b → (∀ μ c, VR h μ V c → VR h μ (.ptr p) c) → K .undef h' = some r → P.cellsOf ty = cellsIn (evalO t y) → 0 < P.cellsOf ty → Puts ro p (evalO t y) h h' →
      ∃ b old new, K .undef (setB h b new) = some r ∧ blkOf (evalO t x) = some b ∧ blk? h b = some old ∧ fitB b old new ∧ shapeB new = shapeB old ∧ PutSem P ro (.store ty x y) t h b (setB h b new) := by
    intro p h' V hx hV hptr hk hsz h0 hp
    have hsem := puts_sound (P := P) hsz h0 hp
    obtain ⟨hro, hn, h1, old, new, q⟩ := hp
    have heq := q.eq
    subst heq
    have hfits := q.fits
    refine ⟨p.b, old, new, hk, by rw [hx]; exact hV, q.at_, hfits, q.shape, fun o a w μ next Q ho hop H => ?_⟩
    have hv := hop x (by simp [Op.operands])
    have hy := hop y (by simp [Op.operands])
    rw [hx] at hv
    have hv := hptr _ _ hv
    obtain ⟨ad, hc⟩ := hv.ptr_c
    rw [hc] at hv
    obtain ⟨L, k, base, room, _, g2, _⟩ := fresh_of hv hn
    refine ⟨by rw [g2]; simp, fun hnx => ?_⟩
    obtain ⟨w', e1, e2, e3⟩ := hsem μ w ad _ hv hy H
    have hr : (execOp a.eval o).run P w = .ok .skip w' := by simp [execOp, ho, Instr.storeAt, Instr.sureAddr, hc, e1]
    unfold Oper.wp
    rw [hr]
    exact hnx w' _ (.undef _) e2 e3
  simp only [opK] at he
  split at he
  · rename_i p hx
    obtain ⟨hb, hk⟩ := br_fail he
    simp only [Bool.and_eq_true, Nat.blt_eq] at hb
    have hk : storeAt ro p (evalO t y) h (fun h' => K .undef h') = some r := hk
    obtain ⟨h', hk, hp⟩ := storeAt_puts (by rw [← Nat.eq_of_beq_eq_true hb.1]; exact hb.2) hk
    exact key p h' _ hx rfl (fun _ _ hv => hv) hk (Nat.eq_of_beq_eq_true hb.1) hb.2 hp
  · rename_i p c hx
    obtain ⟨hb, hk⟩ := br_fail he
    have hb := Nat.eq_of_beq_eq_true hb
    obtain ⟨h', hk, hci, hp⟩ := storeRec_puts hk
    exact key { p with o := p.o + c } h' _ hx rfl (fun _ _ hv => hv.rptr_ptr) hk (by omega) (by omega) hp
  · cases he
end
end Go.AM
