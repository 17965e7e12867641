/- A part of a proof about the given program: an abstract machine, what the given functions come to, and plain laws. -/
import Derived.Test.YtkboldcnkkolkaaAMDraw3
namespace Go.AM
section
variable {α : Type} {r : α} {P : Program} {ro : Nat}

/-- References that lie below stay when the heap is cut. -/
theorem scoped_take {h : Heap} {n : Nat} {v : AV} (hs : Scoped h v) (hr : refsBelow n v = true) : Scoped (h.take n) v := by
  have place : ∀ {p : Place} {L : Nat}, segLenAt h p.b p.s = some L → Nat.blt p.b.b n = true → segLenAt (h.take n) p.b p.s = some L := by
    intro p L hl hb
    rw [Nat.blt_eq] at hb
    unfold segLenAt at *
    rw [blk_congr (h := h) (h' := h.take n) (κ := p.b) rfl (by rw [List.getElem?_take, if_pos hb])]
    exact hl
  have num : ∀ (b : Bool → Scoped h .undef) (ss : List AV), (∀ seg, seg ∈ ss → ∀ v, v ∈ segVals seg → (∃ k n, v = .int k n) ∨ (∃ b, v = .bool b) ∨ (∃ s, v = .str s) ∨ v = .nils) → ∀ i, Scoped (h.take n) ((flat ss).getD i .undef) := by
    intro _ ss hss i
    rw [List.getD_eq_getElem?_getD]
    cases hq : (flat ss)[i]? with
    | none => exact .undef
    | some v =>
      simp only [Option.getD_some]
      obtain ⟨seg, h1, h2⟩ := List.mem_flatMap.1 (List.mem_of_getElem? hq)
      rcases hss seg h1 v h2 with ⟨k, n, rfl⟩ | ⟨b, rfl⟩ | ⟨s, rfl⟩ | rfl
      · exact .int _ _
      · exact .bool _
      · exact .str _
      · exact .nils
  have aggs : ∀ ss : List AV, (ss.all fun
      | .ints .. | .bools .. => true
      | .vals vs => vs.all fun
        | .bool _ | .int _ _ | .str _ | .nils => true
        | _ => false
      | _ => false) = true → Scoped (h.take n) (.agg ss) := by
    intro ss hss
    refine .agg ss (num (fun _ => .undef) ss fun seg h1 v h2 => ?_)
    have h3 := List.all_eq_true.1 hss seg h1
    cases seg <;> simp only [Bool.false_eq_true] at h3
    · rename_i k m f
      simp only [segValsOf, List.mem_map] at h2
      obtain ⟨i, _, rfl⟩ := h2
      exact .inl ⟨_, _, rfl⟩
    · rename_i m f
      simp only [segValsOf, List.mem_map] at h2
      obtain ⟨i, _, rfl⟩ := h2
      exact .inr (.inl ⟨_, rfl⟩)
    · rename_i vs
      have h4 := List.all_eq_true.1 h3 v h2
      cases v <;> simp only [Bool.false_eq_true] at h4
      · exact .inr (.inl ⟨_, rfl⟩)
      · exact .inl ⟨_, _, rfl⟩
      · exact .inr (.inr (.inl ⟨_, rfl⟩))
      · exact .inr (.inr (.inr rfl))
  cases hs with
  | undef => exact .undef
  | bool => exact .bool _
  | int => exact .int _ _
  | str => exact .str _
  | nils => exact .nils
  | ptr p L h1 h2 => exact .ptr p L (place h1 hr) h2
  | rptr p c L h1 h2 => exact .rptr p c L (place h1 hr) h2
  | slice p len cap es ex L h1 h2 => exact .slice p len cap es ex L (place h1 hr) h2
  | func f caps h1 =>
    refine .func f caps fun i => ?_
    rw [List.getD_eq_getElem?_getD]
    cases hq : caps[i]? with
    | none => exact .undef
    | some v =>
      have h2 := List.all_eq_true.1 (show caps.all _ = true from hr) v (List.mem_of_getElem? hq)
      have h3 := h1 i
      rw [List.getD_eq_getElem?_getD, hq] at h3
      simp only [Option.getD_some] at h3 ⊢
      cases v <;> simp only [Bool.false_eq_true] at h2
      · exact .bool _
      · exact .int _ _
      · cases h3 with | ptr _ L g1 g2 => exact .ptr _ L (place g1 h2) g2
  | agg ss _ => exact aggs ss hr
  | tuple vs h1 =>
    refine .tuple vs fun i => ?_
    rw [List.getD_eq_getElem?_getD]
    cases hq : vs[i]? with
    | none => exact .undef
    | some v =>
      have h2 := List.all_eq_true.1 (show vs.all _ = true from hr) v (List.mem_of_getElem? hq)
      have h3 := h1 i
      rw [List.getD_eq_getElem?_getD, hq] at h3
      simp only [Option.getD_some] at h3 ⊢
      cases v <;> simp only [Bool.false_eq_true] at h2
      · exact .bool _
      · exact .int _ _
      · exact .str _
      · cases h3 with | slice _ _ _ _ _ L g1 g2 => exact .slice _ _ _ _ _ L (place g1 h2) g2
      · exact .nils
      · exact aggs _ h2

/-- The same for the cells of a block. -/
theorem scopedH_take {h : Heap} {n : Nat} (hs : ScopedH h) (hr : ∀ b, b ∈ h.take n → ∀ seg, seg ∈ b → refsBelow n seg = true) : ScopedH (h.take n) := by
  intro b ss hb i v hv
  have hlt := has_lt ⟨_, hb⟩
  rw [List.length_take] at hlt
  have hb' : blk? h b = some ss := by
    rw [blk_congr (h := h) (h' := h.take n) (κ := b) rfl (by rw [List.getElem?_take, if_pos (by omega)])] at hb
    exact hb
  have h1 := hs b ss hb' i v hv
  rcases blk_cases hb with ⟨_, hraw, _⟩ | ⟨_, k, _, xs, _, _, _, rfl⟩
  case inr =>
    simp only [flat, List.flatMap_cons, List.flatMap_nil, List.append_nil, segVals, segValsOf, List.getElem?_map] at hv
    cases hq : xs[i]? with
    | none => rw [hq] at hv; cases hv
    | some m => rw [hq] at hv; cases hv; exact .int _ _
  obtain ⟨seg, h2, h3⟩ := List.mem_flatMap.1 (List.mem_of_getElem? hv)
  have h4 := hr ss (List.mem_of_getElem? hraw) seg h2
  cases seg <;> simp only [segValsOf, List.not_mem_nil] at h3
  · obtain ⟨j, _, rfl⟩ := List.mem_map.1 h3; exact .int _ _
  · obtain ⟨j, _, rfl⟩ := List.mem_map.1 h3; exact .int _ _
  · obtain ⟨j, _, rfl⟩ := List.mem_map.1 h3; exact .bool _
  · have h5 := List.all_eq_true.1 (show List.all _ _ = true from h4) v h3
    apply scoped_take h1
    cases v <;> simp only [Bool.false_eq_true] at h5 <;> first | exact h5 | rfl
  · simp only [recVals, List.mem_map] at h3
    obtain ⟨j, _, rfl⟩ := h3
    rename_i ks xs _
    cases ks.getD (j % ks.length) none
    · exact .bool _
    · exact .int _ _
  · obtain ⟨q, _, rfl⟩ := List.mem_map.1 h3
    exact scoped_take h1 h4
  · obtain ⟨j, _, rfl⟩ := List.mem_map.1 h3; exact .str _

/-- A heap that is cut. -/
theorem HR.cut {h : Heap} {μ : LMap} {w : World} {n : Nat} (H : HR ro h μ w) (hn : ro ≤ n) (hr : h.length ≤ n ∨ ∀ b, b ∈ h.take n → ∀ seg, seg ∈ b → refsBelow n seg = true) : HR ro (h.take n) μ w := by
  refine H.restrict (List.take_prefix _ _) ?_ ?_
  · rcases hr with h1 | h1
    · rw [List.take_of_length_le h1]; exact H.scope
    · exact scopedH_take H.scope h1
  · rw [List.length_take]
    have := H.rol
    omega

theorem VR.cut {h : Heap} {μ : LMap} {n : Nat} {v : AV} {c : Value} (hv : VR h μ v c) (hr : h.length ≤ n ∨ refsBelow n v = true) : VR (h.take n) μ v c := by
  refine hv.restrict (List.take_prefix _ _) ?_
  rcases hr with h1 | h1
  · rw [List.take_of_length_le h1]; exact hv.inScope
  · exact scoped_take hv.inScope h1

theorem Ext.cut {h h' : Heap} {μ μ' : LMap} {w w' : World} {n : Nat} (X : Ext ro h μ w h' μ' w') (hn : h.length ≤ n) : Ext ro h μ w (h'.take n) μ' w' := by
  have hraw : ∀ b, b < h.length → (h'.take n)[b]? = h'[b]? := fun b hb => by rw [List.getElem?_take, if_pos (by omega)]
  have hget : ∀ b : Key, b.b < h.length → blk? (h'.take n) b = blk? h' b := fun b hb => blk_congr rfl (hraw b.b hb)
  refine ⟨⟨fun b s L hl => ?_⟩, X.os, X.tape, X.output, X.size, by rw [List.length_take]; have := X.len; omega, X.frame, fun b h1 h2 => ?_, fun b k base room h1 h2 => X.moved b k base room ?_ h2, X.froz⟩
  · obtain ⟨L', h1, h2, h3⟩ := X.le.lens b s L hl
    have hb := segLenAt_lt hl
    refine ⟨L', ?_, h2, fun e => ?_⟩
    · unfold segLenAt at *
      rw [hget b hb]; exact h1
    · obtain ⟨h4, h5⟩ := h3 e
      refine ⟨?_, h5⟩
      rw [← h4]
      unfold segOff
      rw [blkD_same (segLenAt_has h1) (hget b hb)]
  · rw [hraw b h2]
    exact X.rob b h1 h2
  · have hlt := has_lt h1
    rw [List.length_take] at hlt
    obtain ⟨ss, hb⟩ := h1
    exact ⟨ss, by rw [← blk_congr (h := h') (h' := h'.take n) (κ := b) rfl (by rw [List.getElem?_take, if_pos (by omega)])]; exact hb⟩

theorem keepT_get (ks gs : List Nat) : ∀ (t : List AV) (i j : Nat), (keepT ks gs i t).getD j .undef = .undef ∨ (keepT ks gs i t).getD j .undef = t.getD j .undef ∨ (keepT ks gs i t).getD j .undef = unex (t.getD j .undef) := by
  intro t
  induction t with
  | nil => intro i j; left; rfl
  | cons v t ih =>
    intro i j
    cases j with
    | zero =>
      simp only [keepT, List.getD_cons_zero]
      cases elemB i ks with
      | false => left; rfl
      | true =>
        cases elemB i gs with
        | false => right; left; rfl
        | true => right; right; rfl
    | succ j => simpa [keepT] using ih (i + 1) j
theorem keepT_length (ks gs : List Nat) : ∀ (t : List AV) (i : Nat), (keepT ks gs i t).length = t.length := by
  intro t
  induction t with
  | nil => intro i; rfl
  | cons v t ih => intro i; simp [keepT, ih]

theorem VR.unex {h : Heap} {μ : LMap} {w : World} (H : HR ro h μ w) {v : AV} {c : Value} (hv : VR h μ v c) : VR h μ (unex v) c := by
  unfold Go.AM.unex
  split
  · rename_i p l cp es
    cases hq : Nat.ble (p.o + mulS cp es) p.n with
    | false => exact .undef _
    | true =>
      rw [cond_true]
      rw [Nat.ble_eq, mulS_eq] at hq
      cases hv with
      | slice _ _ _ _ _ a cap' L h1 h2 h3 h4 =>
        refine .slice _ _ _ _ _ _ _ L h1 h2 h3 fun e => ?_
        obtain ⟨g1, g2, g3⟩ := h4 e
        refine ⟨g1, fun e => (by cases e), ?_⟩
        rcases g3 with ⟨k, base, room, m1, m2, m3⟩ | g3
        · refine .inl ⟨k, base, room, m1, m2, fun _ => ?_⟩
          have := g2 rfl
          subst this
          obtain ⟨ss, hb, hs, hL⟩ := segAt_get h1
          have hroom := (H.at_ _ _ _ _ _ hb m1).2.1
          rw [segOff_eq hb]
          have hfl : lenOf (ss.take p.s) + L ≤ (flat ss).length := by
            rw [flat_length]
            have e1 := drop_of_get hs
            have e2 : lenOf ss = lenOf (ss.take p.s) + lenOf (ss.drop p.s) := by
              have hap : ∀ x y : List AV, lenOf (x ++ y) = lenOf x + lenOf y := fun x y => by simp [lenOf]
              have := hap (ss.take p.s) (ss.drop p.s)
              rwa [List.take_append_drop] at this
            rw [e2, e1]
            simp only [lenOf, List.map_cons, List.sum_cons, hL]
            omega
          omega
        · exact .inr g3
  · exact hv

/-- What is forgotten at the head of a loop, or behind it. -/
theorem trimSt_sound {ks gs : List Nat} {n : Nat} {st s : St} (he : trimSt ks gs n st = some s) {h0 : Heap} {μ0 μ : LMap} {w0 w : World} {a : Act} (hn : h0.length = n) (ht : TR st.h μ st.t a.tmps) (H : HR ro st.h μ w) (X : Ext ro h0 μ0 w0 st.h μ w) (hro : ro ≤ n) :
    TR s.h μ s.t a.tmps ∧ HR ro s.h μ w ∧ Ext ro h0 μ0 w0 s.h μ w ∧ s.h.length = n := by
  unfold trimSt at he
  simp only [forceL_eq, forceH_eq] at he
  cases hq : (Nat.beq (st.h.take n).length st.h.length || (allB (refsBelow n) (keepT ks gs 0 st.t) && allB (fun b => allB (refsBelow n) b) (st.h.take n))) with
  | false => rw [hq] at he; cases he
  | true =>
    rw [hq] at he
    simp only [cond_true, Option.some.injEq] at he
    subst he
    simp only
    simp only [Bool.or_eq_true, Bool.and_eq_true] at hq
    have hc : st.h.length ≤ n ∨ (∀ v, v ∈ keepT ks gs 0 st.t → refsBelow n v = true) ∧ ∀ b, b ∈ st.h.take n → ∀ seg, seg ∈ b → refsBelow n seg = true := by
      rcases hq with h1 | ⟨h1, h2⟩
      · left
        have := Nat.eq_of_beq_eq_true h1
        rw [List.length_take] at this
        omega
      · exact .inr ⟨allB_spec h1, fun b hb => allB_spec (allB_spec h2 b hb)⟩
    have hlen := X.len
    refine ⟨⟨by rw [keepT_length]; exact ht.1, fun i => ?_⟩, H.cut hro (hc.imp id (·.2)), X.cut (by omega), by rw [List.length_take]; omega⟩
    have h1 : VR st.h μ ((keepT ks gs 0 st.t).getD i .undef) (a.tmps.getD i Go.undef) := by
      rcases keepT_get ks gs st.t 0 i with e | e | e
      · rw [e]; exact .undef _
      · rw [e]; exact ht.2 i
      · rw [e]; exact (ht.2 i).unex H
    refine h1.cut (hc.imp id fun hh => ?_)
    rw [List.getD_eq_getElem?_getD]
    cases hq : (keepT ks gs 0 st.t)[i]? with
    | none => rfl
    | some v => exact hh.1 v (List.mem_of_getElem? hq)

def exitOf : AExit → Exit
  | .normal => .normal
  | .exit i => .exit i
  | .ret => .ret

/-- How a piece of code is left. -/
def Left (ro : Nat) (st : St) (ae : AExit) (st' : St) (a : Act) (w : World) (μ : LMap) : Exit → Act → World → Prop := fun e a' w' =>
  e = exitOf ae ∧ ∃ μ', TR st'.h μ' st'.t a'.tmps ∧ a'.defers = a.defers ∧ HR ro st'.h μ' w' ∧ Ext ro st.h μ w st'.h μ' w'

/-- What a piece of code does. -/
def CodeSem (P : Program) (ro : Nat) (c : Code) (st : St) (ae : AExit) (st' : St) : Prop :=
  ∀ (a : Act) (w : World) (μ : LMap), TR st.h μ st.t a.tmps → HR ro st.h μ w → c.wp P (Left ro st ae st' a w μ) a w

theorem loopN_sound {c : Code} {body : St → (AExit → St → Option α) → Option α} {ks gs : List Nat} {n : Nat} (hro : ro ≤ n)
    (hbody : ∀ st K, body st K = some r → ∃ ae st', K ae st' = some r ∧ CodeSem P ro c st ae st') : ∀ (fuel : Nat) (s : St) (K : AExit → St → Option α), loopN (trimSt ks gs n) body fuel s K = some r → s.h.length = n →
    ∃ ae st', K ae st' = some r ∧ ae ≠ .normal ∧ ∀ (a : Act) (w : World) (μ : LMap), TR s.h μ s.t a.tmps → HR ro s.h μ w → ∀ (b : Frame) (k : List Item) (cs : List Frame),
      ∃ e a' w', Left ro s ae st' a w μ e a' w' ∧ Arrives P (lone (b.at a (.code c :: .inLoop c :: k)) cs w) b k cs e a' w' := by
  intro fuel
  induction fuel with
  | zero => intro s K he; simp [loopN] at he
  | succ fuel ih =>
    intro s K he hn
    simp only [loopN] at he
    obtain ⟨ae, st', hk, hsem⟩ := hbody s _ he
    cases ae with
    | normal =>
      simp only at hk
      split at hk
      · rename_i s2 hs2
        have hs2n : s2.h.length = n ∨ ¬ ∃ (a : Act) (w : World) (μ : LMap), TR s.h μ s.t a.tmps ∧ HR ro s.h μ w := by
          by_cases hx : ∃ (a : Act) (w : World) (μ : LMap), TR s.h μ s.t a.tmps ∧ HR ro s.h μ w
          · obtain ⟨a, w, μ, ht, H⟩ := hx
            obtain ⟨e, a', w', ⟨_, μ', q1, _, q3, q4⟩, _⟩ := hsem a w μ ht H default [] []
            exact .inl (trimSt_sound hs2 hn q1 q3 q4 hro).2.2.2
          · exact .inr hx
        rcases hs2n with hs2n | hnx
        · obtain ⟨ae, st2, hk2, hne, hrest⟩ := ih s2 K hk hs2n
          refine ⟨ae, st2, hk2, hne, fun a w μ ht H b k cs => ?_⟩
          obtain ⟨e, a1, w1, ⟨rfl, μ1, q1, q2, q3, q4⟩, harr⟩ := hsem a w μ ht H b (.inLoop c :: k) cs
          obtain ⟨r1, r2, r3, _⟩ := trimSt_sound hs2 hn q1 q3 q4 hro
          obtain ⟨e2, a2, w2, ⟨h1, μ2, h2, h3, h4, h5⟩, harr2⟩ := hrest a1 w1 μ1 r1 r2 b k cs
          exact ⟨e2, a2, w2, ⟨h1, μ2, h2, h3.trans q2, h4, r3.trans h5⟩, .of_steps (Steps.trans harr (.one step_inLoop)) harr2⟩
        · -- nobody comes here: any way out will do
          have : ∀ (fuel : Nat) (s : St), loopN (trimSt ks gs n) body fuel s K = some r → ∃ ae st', K ae st' = some r ∧ ae ≠ .normal := by
            intro fuel
            induction fuel with
            | zero => intro s he; simp [loopN] at he
            | succ fuel ih2 =>
              intro s he
              simp only [loopN] at he
              obtain ⟨ae, st', hk, _⟩ := hbody s _ he
              cases ae with
              | normal =>
                simp only at hk
                split at hk
                · exact ih2 _ hk
                · cases hk
              | exit i => exact ⟨.exit i, st', hk, by simp⟩
              | ret => exact ⟨.ret, st', hk, by simp⟩
          obtain ⟨ae, st2, hk2, hne⟩ := this fuel s2 hk
          exact ⟨ae, st2, hk2, hne, fun a w μ ht H => absurd ⟨a, w, μ, ht, H⟩ hnx⟩
      · cases hk
    | exit i =>
      refine ⟨.exit i, st', hk, by simp, fun a w μ ht H b k cs => ?_⟩
      obtain ⟨e, a1, w1, hl, harr⟩ := hsem a w μ ht H b (.inLoop c :: k) cs
      have he := hl.1
      subst he
      exact ⟨_, a1, w1, hl, .pass (x := .inLoop c) rfl (fun _ _ => .inl (by simp [exitOf])) harr⟩
    | ret =>
      refine ⟨.ret, st', hk, by simp, fun a w μ ht H b k cs => ?_⟩
      obtain ⟨e, a1, w1, hl, harr⟩ := hsem a w μ ht H b (.inLoop c :: k) cs
      have he := hl.1
      subst he
      exact ⟨_, a1, w1, hl, .pass (x := .inLoop c) rfl (fun _ _ => .inl (by simp [exitOf])) harr⟩

theorem leaveLoop_sound {ann : LoopAnn} {n : Nat} {K : AExit → St → Option α} {ae : AExit} {st : St} (he : leaveLoop ann n K ae st = some r) : ∃ ks st', K ae st' = some r ∧ trimSt ks [] n st = some st' := by
  have key : ∀ (ks : List Nat) (o : Option St), trimSt ks [] n st = o → (match o with | some s => K ae s | none => none) = some r → ∃ ks st', K ae st' = some r ∧ trimSt ks [] n st = some st' := by
    intro ks o ho h
    cases o with
    | none => cases h
    | some s => exact ⟨ks, s, h, ho⟩
  cases ae with
  | normal => exact key ann.out _ rfl he
  | exit i => exact key ann.out _ rfl he
  | ret => exact key ann.ret _ rfl he

theorem Left.refl {st : St} {a : Act} {w : World} {μ : LMap} (ht : TR st.h μ st.t a.tmps) (H : HR ro st.h μ w) (ae : AExit) : Left ro st ae st a w μ (exitOf ae) a w := ⟨rfl, μ, ht, rfl, H, .refl _ _ _ _⟩

theorem loop_sound {c : Code} {body : St → (AExit → St → Option α) → Option α} (hbody : ∀ st K, body st K = some r → ∃ ae st', K ae st' = some r ∧ CodeSem P ro c st ae st') {a : LoopAnn} {fuel : Nat} {st s : St} {K : AExit → St → Option α}
    (hs : trimSt a.head a.grow st.h.length st = some s) (he : loopN (trimSt a.head a.grow st.h.length) body fuel s (leaveLoop a st.h.length K) = some r) :
    ∃ ae st', K ae st' = some r ∧ CodeSem P ro (.loop c) st ae st' := by
  by_cases hx : ∃ (a : Act) (w : World) (μ : LMap), TR st.h μ st.t a.tmps ∧ HR ro st.h μ w
  · obtain ⟨a0, w0, μ0, ht0, H0⟩ := hx
    have hsn := (trimSt_sound hs rfl ht0 H0 (.refl _ _ _ _) H0.rol).2.2.2
    obtain ⟨ae, st1, hk, hne, hsem⟩ := loopN_sound H0.rol hbody fuel s _ he hsn
    obtain ⟨ks, st2, hk2, htr⟩ := leaveLoop_sound hk
    refine ⟨ae, st2, hk2, fun a w μ ht H b k cs => ?_⟩
    obtain ⟨r1, r2, r3, _⟩ := trimSt_sound hs rfl ht H (.refl _ _ _ _) H.rol
    obtain ⟨e, a1, w1, ⟨q0, μ1, q1, q2, q3, q4⟩, harr⟩ := hsem a w μ r1 r2 b k cs
    obtain ⟨u1, u2, u3, _⟩ := trimSt_sound htr rfl q1 q3 (r3.trans q4) H.rol
    exact ⟨e, a1, w1, ⟨q0, μ1, u1, q2, u2, u3⟩, .of_steps (.one step_loop) harr⟩
  · have : ∀ (fuel : Nat) (s : St) (K : AExit → St → Option α), loopN (trimSt a.head a.grow st.h.length) body fuel s K = some r → ∃ ae st', K ae st' = some r := by
      intro fuel
      induction fuel with
      | zero => intro s K he; simp [loopN] at he
      | succ fuel ih2 =>
        intro s K he
        simp only [loopN] at he
        obtain ⟨ae, st', hk, _⟩ := hbody s _ he
        cases ae with
        | normal =>
          simp only at hk
          split at hk
          · exact ih2 _ _ hk
          · cases hk
        | exit i => exact ⟨.exit i, st', hk⟩
        | ret => exact ⟨.ret, st', hk⟩
    obtain ⟨ae, st1, hk⟩ := this _ _ _ he
    obtain ⟨ks, st2, hk2, _⟩ := leaveLoop_sound hk
    exact ⟨ae, st2, hk2, fun a w μ ht H => absurd ⟨a, w, μ, ht, H⟩ hx⟩

/-- The summary of a loop is as told. -/
def LoopOk (P : Program) (s : LSum α) (c : Code) : Prop :=
  ∀ (ro : Nat) (st : St) (K : AExit → St → Option α) (r : α), s ro st K = some r → ∃ ae st', K ae st' = some r ∧ CodeSem P ro (.loop c) st ae st'

theorem codeK_sound {call : FuncId → Sum α} (hcall : CallsOk P call) (hm : P.follows .mixedOrders = true) {ls : Nat → Option (LSum α)} {ann : Nat → LoopAnn} {lf : Nat} : ∀ (c : Code), (∀ c', c' ∈ loopsIn c → ∀ s, ls (firstRegion c') = some s → LoopOk P s c') →
    ∀ (st : St) (K : AExit → St → Option α), codeK P ro call ls ann lf c st K = some r → ∃ ae st', K ae st' = some r ∧ CodeSem P ro c st ae st' := by
  intro c
  induction c with
  | skip => exact fun _ st K he => ⟨.normal, st, he, fun a w μ ht H => wp_skip (Left.refl ht H .normal)⟩
  | label l => exact fun _ st K he => ⟨.normal, st, he, fun a w μ ht H => wp_label (Left.refl ht H .normal)⟩
  | exit id => exact fun _ st K he => ⟨.exit id, st, he, fun a w μ ht H => wp_exit (Left.refl ht H (.exit id))⟩
  | ret => exact fun _ st K he => ⟨.ret, st, he, fun a w μ ht H => wp_ret (Left.refl ht H .ret)⟩
  | region id ops draw =>
    intro _ st K he
    simp only [codeK] at he
    obtain ⟨hb, hk⟩ := br_fail he
    cases draw with
    | false =>
      obtain ⟨st', h1, h2⟩ := region_sound (id := id) (K := K .normal) hcall hk
      exact ⟨.normal, st', h1, fun a w μ ht H => h2 a w μ _ ht H fun a' w' μ' q1 q2 q3 q4 => ⟨rfl, μ', q1, q2, q3, q4⟩⟩
    | true =>
      obtain ⟨st', h1, h2⟩ := region_drawn (id := id) (K := K .normal) hcall hm (by simpa using hb) hk
      exact ⟨.normal, st', h1, fun a w μ ht H => h2 a w μ _ ht H fun a' w' μ' q1 q2 q3 q4 => ⟨rfl, μ', q1, q2, q3, q4⟩⟩
  | seq x y ihx ihy =>
    intro hls st K he
    have ihx := ihx fun c' hc => hls c' (List.mem_append_left _ hc)
    have ihy := ihy fun c' hc => hls c' (List.mem_append_right _ hc)
    simp only [codeK] at he
    obtain ⟨ae, st1, hk, hs⟩ := ihx st _ he
    cases ae with
    | normal =>
      obtain ⟨ae2, st2, hk2, hs2⟩ := ihy st1 K hk
      refine ⟨ae2, st2, hk2, fun a w μ ht H => wp_seq (wp_mono (hs a w μ ht H) ?_)⟩
      rintro e a1 w1 ⟨rfl, μ1, q1, q2, q3, q4⟩
      exact wp_mono (hs2 a1 w1 μ1 q1 q3) fun e a2 w2 ⟨h1, μ2, h2, h3, h4, h5⟩ => ⟨h1, μ2, h2, h3.trans q2, h4, q4.trans h5⟩
    | exit i =>
      refine ⟨.exit i, st1, hk, fun a w μ ht H => wp_seq (wp_mono (hs a w μ ht H) ?_)⟩
      intro e a1 w1 hl
      have := hl.1
      subst this
      exact hl
    | ret =>
      refine ⟨.ret, st1, hk, fun a w μ ht H => wp_seq (wp_mono (hs a w μ ht H) ?_)⟩
      intro e a1 w1 hl
      have := hl.1
      subst this
      exact hl
  | cond c x y ihx ihy =>
    intro hls st K he
    have ihx := ihx fun c' hc => hls c' (List.mem_append_left _ hc)
    have ihy := ihy fun c' hc => hls c' (List.mem_append_right _ hc)
    simp only [codeK] at he
    split at he
    · rename_i b hc
      have hknow : knowO st.t c b = st.t := by
        cases c <;> simp only [knowO]
        exact set_same hc
      have hcv : ∀ {a : Act} {μ : LMap}, TR st.h μ st.t a.tmps → a.eval c = .bool b := fun ht => by
        have := ht.eval c
        rw [hc] at this
        generalize Act.eval _ c = q at *
        cases this
        rfl
      rcases br_some he with ⟨rfl, hk⟩ | ⟨rfl, hk⟩
      · rw [forceL_eq, hknow] at hk
        obtain ⟨ae, st', h1, h2⟩ := ihx st K hk
        exact ⟨ae, st', h1, fun a w μ ht H => wp_cond_true (hcv ht) (h2 a w μ ht H)⟩
      · rw [forceL_eq, hknow] at hk
        obtain ⟨ae, st', h1, h2⟩ := ihy st K hk
        exact ⟨ae, st', h1, fun a w μ ht H => wp_cond_false (hcv ht) (h2 a w μ ht H)⟩
    · cases he
  | block id c ih =>
    intro hls st K he
    have ih := ih hls
    simp only [codeK] at he
    obtain ⟨ae, st1, hk, hs⟩ := ih st _ he
    cases ae with
    | normal =>
      refine ⟨.normal, st1, hk, fun a w μ ht H => wp_block (wp_mono (hs a w μ ht H) ?_)⟩
      intro e a1 w1 hl
      have := hl.1
      subst this
      exact hl
    | ret =>
      refine ⟨.ret, st1, hk, fun a w μ ht H => wp_block (wp_mono (hs a w μ ht H) ?_)⟩
      intro e a1 w1 hl
      have := hl.1
      subst this
      exact hl
    | exit i =>
      rcases br_some hk with ⟨hi, hk2⟩ | ⟨hi, hk2⟩
      · have := Nat.eq_of_beq_eq_true hi
        subst this
        refine ⟨.normal, st1, hk2, fun a w μ ht H => wp_block (wp_mono (hs a w μ ht H) ?_)⟩
        rintro e a1 w1 ⟨rfl, hl⟩
        simp only [exitOf, Exit.inBlock, if_true]
        exact ⟨rfl, hl⟩
      · refine ⟨.exit i, st1, hk2, fun a w μ ht H => wp_block (wp_mono (hs a w μ ht H) ?_)⟩
        rintro e a1 w1 ⟨rfl, hl⟩
        have hne : ¬ i = id := fun e => by subst e; simp at hi
        simp only [exitOf, Exit.inBlock, hne, if_false]
        exact ⟨rfl, hl⟩
  | loop c ih =>
    intro hls st K he
    have ih := ih fun c' hc => hls c' (List.mem_cons_of_mem _ hc)
    simp only [codeK] at he
    split at he
    · rename_i s hs
      exact hls c (List.mem_cons_self ..) s hs ro st K r he
    split at he
    · rename_i s hs
      exact loop_sound (fun st K => ih st K) hs he
    · cases he
  | rangeFunc => intro _ st K he; simp [codeK] at he
  | scope => intro _ st K he; simp [codeK] at he
  | goto => intro _ st K he; simp [codeK] at he
  | refuse => intro _ st K he; simp [codeK] at he
end
end Go.AM
