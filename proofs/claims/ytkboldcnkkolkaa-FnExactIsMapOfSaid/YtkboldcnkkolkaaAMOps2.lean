/- A part of a proof about the given program: an abstract machine, what the given functions come to, and plain laws. -/
import Derived.Test.YtkboldcnkkolkaaAMOps
namespace Go.AM
section
variable {α : Type} {P : Program} {r : α} {ro : Nat} {op : Op} {t : List AV} {h : Heap}

theorem locate_spec : ∀ (l : List AV) (o i q n : Nat), locate l o = some (i, q, n) → ∃ seg, l[i]? = some seg ∧ segLen seg = n ∧ q < n ∧ lenOf (l.take i) + q = o
  | [], o, i, q, n, h => by simp [locate] at h
  | s :: l, o, i, q, n, h => by
    simp only [locate] at h
    cases hc : Nat.blt o (segLen s) with
    | true =>
      simp only [hc, cond_true, Option.some.injEq, Prod.mk.injEq] at h
      obtain ⟨rfl, rfl, rfl⟩ := h
      rw [Nat.blt_eq] at hc
      exact ⟨s, rfl, rfl, hc, by simp [lenOf]⟩
    | false =>
      simp only [hc, cond_false] at h
      have hc : segLen s ≤ o := by
        rcases Nat.lt_or_ge o (segLen s) with h | h
        · rw [show Nat.blt o (segLen s) = true from by rw [Nat.blt_eq]; exact h] at hc; cases hc
        · exact h
      cases hr : locate l (o - segLen s) with
      | none => simp [hr] at h
      | some x =>
        obtain ⟨i', q', n'⟩ := x
        simp only [hr, Option.some.injEq, Prod.mk.injEq] at h
        obtain ⟨rfl, rfl, rfl⟩ := h
        obtain ⟨seg, h1, h2, h3, h4⟩ := locate_spec l _ _ _ _ hr
        exact ⟨seg, by simpa using h1, h2, h3, by simp [lenOf] at h4 ⊢; omega⟩

theorem movePlace_sound {p : Place} {off : Nat} {same : Bool} {K : Place → Option α} (he : movePlace h p off same K = some r) :
    ∃ q, K q = some r ∧ ∀ (μ : LMap) (a : Addr), VR h μ (.ptr p) (.pointer (some a)) → VR h μ (.ptr q) (.pointer (some (a.add off))) := by
  unfold movePlace at he
  rcases br_some he with ⟨_, hk⟩ | ⟨_, hk⟩
  · refine ⟨_, hk, fun μ a hv => ?_⟩
    obtain ⟨a', L, e, h1, h2, h3⟩ := hv.ptr_inv
    cases e
    refine .ptr _ _ L h1 h2 fun e => ?_
    obtain ⟨k, base, room, h4, h5⟩ := h3 e
    exact ⟨k, base, room, h4, by rw [h5, addr_add, addO_eq]; simp [Nat.add_assoc]⟩
  · obtain ⟨hb, hk⟩ := br_fail hk
    have hn := Nat.eq_of_beq_eq_true hb
    split at hk
    · rename_i i q n hloc
      obtain ⟨seg, g1, g2, g3, g4⟩ := locate_spec _ _ _ _ _ hloc
      refine ⟨_, hk, fun μ a hv => ?_⟩
      obtain ⟨L, k, base, room, q1, q2, rfl⟩ := fresh_of hv hn
      obtain ⟨ss, hb, hs, _⟩ := segAt_get q1
      have hd : blkD h p.b = ss := blkD_of hb
      rw [hd] at g1 g4
      rw [List.getElem?_drop] at g1
      refine .ptr _ _ n (by simp [segLenAt, hb, g1, g2]) (Nat.le_refl _) fun _ => ⟨k, base, room, q2, ?_⟩
      rw [addr_add, segOff_eq (s := p.s) hb, segOff_eq (s := p.s + i) hb]
      have : lenOf (ss.take (p.s + i)) = lenOf (ss.take p.s) + lenOf ((ss.drop p.s).take i) := by
        rw [List.take_add, lenOf, lenOf, lenOf, List.map_append, List.sum_append]
      simp only [this]
      congr 1
      omega
    · cases hk

theorem cellsOf_pos {ty : TypeId} (h0 : 0 < P.cellsOf ty) : ∀ w, (sizeOf ty).run P w = .ok (P.cellsOf ty) w := by
  intro w
  cases hi : P.info? ty with
  | none => simp [Program.cellsOf, hi] at h0
  | some i => simp [sizeOf, typeInfo, hi, Program.cellsOf]

theorem goFieldAddr_sound {ty : TypeId} {x : Operand} {f : Nat} {K : AV → Option α} (he : goFieldAddr P ty (evalO t x) f h K = some r) : ∃ v, K v = some r ∧ OpSem P ro (.fieldAddr ty x f) t h v h := by
  unfold goFieldAddr at he
  split at he
  · rename_i fs p hu hx
    split at he
    · rename_i fd hf
      obtain ⟨hb, he⟩ := br_fail he
      rw [Nat.blt_eq] at hb
      split at he
      · obtain ⟨hb2, hk⟩ := br_fail he
        refine ⟨_, hk, .of_pure fun o a w μ ho hop H => ?_⟩
        have hv := hop x (by simp [Op.operands])
        rw [hx] at hv
        obtain ⟨ad, hc⟩ := hv.ptr_c
        rw [hc] at hv
        have hne : ¬ P.cellsOf fd.type = 0 := by omega
        refine ⟨.pointer (some (ad.add fd.offset)), ?_, ?_⟩
        · simp [execOp, ho, Instr.fieldAt, run_underlying hu, hf, Instr.sureAddr, hc, fieldPlace, cellsOf_pos hb, hne]
        · obtain ⟨L, k, base, room, g1, g2, rfl⟩ := fresh_of hv (Nat.eq_of_beq_eq_true hb2)
          obtain ⟨_, _, _, hL⟩ := segAt_get g1
          have hb2 := Nat.eq_of_beq_eq_true hb2
          rw [addr_add]
          exact .rptr p fd.offset _ L g1 (by omega) fun _ => ⟨k, base, room, g2, rfl⟩
      · obtain ⟨q, hk, hq⟩ := movePlace_sound he
        refine ⟨_, hk, .of_pure fun o a w μ ho hop H => ?_⟩
        have hv := hop x (by simp [Op.operands])
        rw [hx] at hv
        obtain ⟨ad, hc⟩ := hv.ptr_c
        rw [hc] at hv
        refine ⟨_, ?_, hq μ ad hv⟩
        have hne : ¬ P.cellsOf fd.type = 0 := by omega
        simp [execOp, ho, Instr.fieldAt, run_underlying hu, hf, Instr.sureAddr, hc, fieldPlace, cellsOf_pos hb, hne]
    · cases he
  · cases he

theorem VR.slice_inv {μ : LMap} {p : Place} {len cap es : Nat} {ex : Bool} {c : Value} (hv : VR h μ (.slice p len cap es ex) c) :
    ∃ a cap' L, c = .slice a len cap' ∧ segLenAt h p.b p.s = some L ∧ p.n ≤ L ∧ len ≤ cap ∧
      (p.n = L → cap ≤ cap' ∧ (ex = true → cap' = cap) ∧ ((∃ k base room, μ p.b = .at k base room ∧ a = some ⟨k, base + segOff h p.b p.s + p.o, none⟩ ∧ (ex = false → segOff h p.b p.s + p.o + cap' * es ≤ room)) ∨ (μ p.b = .none ∧ a = none ∧ cap' = 0))) := by
  cases hv with
  | slice _ _ _ _ _ a cap' L h1 h2 h3 h4 => exact ⟨a, cap', L, rfl, h1, h2, h3, h4⟩

theorem goIndexAddr_sound {ty : TypeId} {x i : Operand} {K : AV → Option α} (he : goIndexAddr P ty (evalO t x) (evalO t i) h K = some r) : ∃ v, K v = some r ∧ OpSem P ro (.indexAddr ty x i) t h v h := by
  unfold goIndexAddr at he
  split at he
  case h_2 => cases he
  rename_i ki n hi
  split at he
  · rename_i len e p hu hx
    obtain ⟨hb, he⟩ := br_fail he
    simp only [Bool.and_eq_true, Nat.blt_eq, decide_eq_true_eq] at hb
    obtain ⟨q, hk, hq⟩ := movePlace_sound he
    refine ⟨_, hk, .of_pure fun o a w μ ho hop H => ?_⟩
    have hv := hop x (by simp [Op.operands])
    have hw := hop i (by simp [Op.operands])
    rw [hx] at hv
    rw [hi] at hw
    obtain ⟨ad, hc⟩ := hv.ptr_c
    rw [hc] at hv
    generalize hq2 : a.eval i = ci at *
    cases hw with | int _ _ _ =>
    refine ⟨_, ?_, hq μ ad hv⟩
    simp [execOp, ho, Instr.indexAt, run_underlying hu, Instr.sureAddr, hc, hq2, asIntOf, cellsOf_pos (show 0 < P.cellsOf e from hb.1), hb.2, mulS_eq, elemSize]
  · rename_i e p len cap es ex hu hx
    obtain ⟨hb, he⟩ := br_fail he
    simp only [Bool.and_eq_true, Nat.blt_eq, decide_eq_true_eq] at hb
    obtain ⟨hn, hb⟩ := hb
    have hn := Nat.eq_of_beq_eq_true hn
    obtain ⟨q, hk, hq⟩ := movePlace_sound he
    refine ⟨_, hk, .of_pure fun o a w μ ho hop H => ?_⟩
    have hv := hop x (by simp [Op.operands])
    have hw := hop i (by simp [Op.operands])
    rw [hx] at hv
    rw [hi] at hw
    obtain ⟨oa, cap', L, hc, g1, g2, g3, g4⟩ := hv.slice_inv
    generalize hq2 : a.eval i = ci at *
    cases hw with | int _ _ _ =>
    obtain ⟨_, _, _, hL⟩ := segAt_get g1
    obtain ⟨h5, _, h6⟩ := g4 (by omega)
    rcases h6 with ⟨k, base, room, h7, rfl, _⟩ | ⟨_, _, h8⟩
    · refine ⟨_, ?_, hq μ _ (.ptr p _ L g1 g2 fun _ => ⟨k, base, room, h7, rfl⟩)⟩
      simp [execOp, ho, Instr.indexAt, run_underlying hu, hc, hq2, asIntOf, cellsOf_pos (show 0 < P.cellsOf e from hb.1), hb.2, mulS_eq, elemSize]
    · omega
  · cases he

theorem optInt_spec {μ : LMap} {a : Act} {d : Int} {x : Option Operand} {n : Int} (hx : optInt d (x.map (evalO t)) = some n) (hv : ∀ y, x = some y → VR h μ (evalO t y) (a.eval y)) :
    (x = none ∧ n = d) ∨ ∃ y k, x = some y ∧ a.eval y = .int k n := by
  cases x with
  | none => simp only [Option.map_none, optInt, Option.some.injEq] at hx; exact .inl ⟨rfl, hx.symm⟩
  | some y =>
    right
    have := hv y rfl
    simp only [Option.map_some] at hx
    generalize evalO t y = q at *
    cases q <;> simp only [optInt, reduceCtorEq, Option.some.injEq] at hx
    subst hx
    generalize hq : a.eval y = c at *
    cases this
    exact ⟨y, _, rfl, hq⟩

theorem run_bound (k : IntKind) (i : Int) (y : Nat) (code : BoundsCode) (h0 : 0 ≤ i) (h1 : i ≤ y) (w : World) : (Instr.sliceBound (.int k i) y code).run P w = .ok i.toNat w := by
  simp [Instr.sliceBound, asIntOf, h0, h1]

theorem goSliceB_sound {len cap : Nat} {lo hi mx : Option Operand} {K : Nat → Nat → Nat → Option α} (he : goSliceB len cap (lo.map (evalO t)) (hi.map (evalO t)) (mx.map (evalO t)) K = some r) :
    ∃ l hh m, K l hh m = some r ∧ l ≤ hh ∧ hh ≤ m ∧ m ≤ cap ∧ (mx = none → m = cap) ∧ ∀ (isS : Bool) (μ : LMap) (a : Act) (w : World) (cap' : Nat), cap ≤ cap' →
      (∀ y, lo = some y → VR h μ (evalO t y) (a.eval y)) → (∀ y, hi = some y → VR h μ (evalO t y) (a.eval y)) → (∀ y, mx = some y → VR h μ (evalO t y) (a.eval y)) → (mx.isSome = true → hi.isSome = true) →
      (Instr.sliceBounds isS len cap' (lo.map a.eval) (hi.map a.eval) (mx.map a.eval)).run P w = .ok (l, hh, if mx.isSome then m else cap') w := by
  unfold goSliceB at he
  split at he
  · rename_i m hh l hm hhh hl
    obtain ⟨hb, hk⟩ := br_fail he
    simp only [Bool.and_eq_true, decide_eq_true_eq] at hb
    obtain ⟨⟨⟨b1, b2⟩, b3⟩, b4⟩ := hb
    refine ⟨_, _, _, hk, by omega, by omega, by omega, fun e => ?_, fun isS μ a w cap' hcap v1 v2 v3 hmh => ?_⟩
    · subst e
      simp only [Option.map_none, optInt, Option.some.injEq] at hm
      omega
    · have q3 := optInt_spec hm v3
      have q2 := optInt_spec hhh v2
      have q1 := optInt_spec hl v1
      rcases q3 with ⟨rfl, rfl⟩ | ⟨y3, k3, rfl, e3⟩
      · rcases q2 with ⟨rfl, rfl⟩ | ⟨y2, k2, rfl, e2⟩
        · rcases q1 with ⟨rfl, rfl⟩ | ⟨y1, k1, rfl, e1⟩
          · simp [Instr.sliceBounds]
          · simp [Instr.sliceBounds, e1, run_bound (P := P) k1 l _ _ b1 (by omega)]
        · rcases q1 with ⟨rfl, rfl⟩ | ⟨y1, k1, rfl, e1⟩
          · simp [Instr.sliceBounds, e2, run_bound (P := P) k2 hh _ _ (by omega) (by omega : hh ≤ (cap' : Int))]
          · simp [Instr.sliceBounds, e1, e2, run_bound (P := P) k2 hh _ _ (by omega) (by omega : hh ≤ (cap' : Int)), run_bound (P := P) k1 l hh.toNat _ b1 (by omega)]
      · rcases q2 with ⟨rfl, rfl⟩ | ⟨y2, k2, rfl, e2⟩
        · simp at hmh
        · rcases q1 with ⟨rfl, rfl⟩ | ⟨y1, k1, rfl, e1⟩
          · simp [Instr.sliceBounds, e2, e3, run_bound (P := P) k3 m _ _ (by omega) (by omega : m ≤ (cap' : Int)), run_bound (P := P) k2 hh m.toNat _ (by omega) (by omega)]
          · simp [Instr.sliceBounds, e1, e2, e3, run_bound (P := P) k3 m _ _ (by omega) (by omega : m ≤ (cap' : Int)), run_bound (P := P) k2 hh m.toNat _ (by omega) (by omega), run_bound (P := P) k1 l hh.toNat _ b1 (by omega)]
  · cases he

theorem goSlice_sound {ty : TypeId} {x : Operand} {lo hi mx : Option Operand} {K : AV → Option α} (hmh : mx.isSome = true → hi.isSome = true)
    (he : goSlice P ty (evalO t x) (lo.map (evalO t)) (hi.map (evalO t)) (mx.map (evalO t)) h K = some r) : ∃ v, K v = some r ∧ OpSem P ro (.slice ty x lo hi mx) t h v h := by
  have ops : ∀ {μ : LMap} {a : Act}, (∀ y, y ∈ (Op.slice ty x lo hi mx).operands → VR h μ (evalO t y) (a.eval y)) → VR h μ (evalO t x) (a.eval x) ∧
      (∀ y, lo = some y → VR h μ (evalO t y) (a.eval y)) ∧ (∀ y, hi = some y → VR h μ (evalO t y) (a.eval y)) ∧ (∀ y, mx = some y → VR h μ (evalO t y) (a.eval y)) := by
    intro μ a hop
    refine ⟨hop x (by simp [Op.operands]), fun y e => hop y (by subst e; simp [Op.operands]), fun y e => hop y (by subst e; simp [Op.operands]), fun y e => hop y (by subst e; simp [Op.operands])⟩
  unfold goSlice at he
  split at he
  · rename_i n e hu
    split at he
    · rename_i p hx
      obtain ⟨hb, he⟩ := br_fail he
      rw [Nat.blt_eq] at hb
      obtain ⟨l, hh, m, hk, h1, h2, h3, h4, hrun⟩ := goSliceB_sound (P := P) he
      refine ⟨_, hk, .of_pure fun o a w μ ho hop H => ?_⟩
      obtain ⟨hv, v1, v2, v3⟩ := ops hop
      rw [hx] at hv
      obtain ⟨ad, hc⟩ := hv.ptr_c
      rw [hc] at hv
      obtain ⟨a', L, e', g1, g2, g3⟩ := hv.ptr_inv
      cases e'
      have hr := hrun false μ a w n (Nat.le_refl _) v1 v2 v3 hmh
      have hm : (if mx.isSome then m else n) = m := by
        split
        · rfl
        · rename_i hq
          exact (h4 (by simpa using hq)).symm
      rw [hm] at hr
      refine ⟨.slice (some (if m = l then ad else ad.add (l * P.cellsOf e))) (hh - l) (m - l), ?_, .slice _ _ _ _ _ _ _ L g1 g2 (by omega) fun e2 => ⟨Nat.le_refl _, fun _ => rfl, .inl ?_⟩⟩
      · simp [execOp, ho, Instr.sliceAt, run_underlying hu, Instr.sureAddr, hc, hr, cellsOf_pos (show 0 < P.cellsOf e from hb)]
      · obtain ⟨k, base, room, q1, rfl⟩ := g3 e2
        refine ⟨k, base, room, q1, ?_, fun e => by cases e⟩
        by_cases hml : m = l
        · rw [if_pos hml, show Nat.beq m l = true from by rw [hml]; exact Nat.beq_refl l, cond_true, addO_eq]
          rfl
        · rw [if_neg hml, beq_ne hml, cond_false, addO_eq, mulS_eq, addr_add]
          simp [elemSize, Nat.add_assoc]
    · cases he
  · rename_i e hu
    split at he
    · rename_i p len cap es ex hx
      obtain ⟨hb, he⟩ := br_fail he
      simp only [Bool.and_eq_true, Nat.blt_eq] at hb
      obtain ⟨hn, hb⟩ := hb
      have hn := Nat.eq_of_beq_eq_true hn
      have hes := Nat.eq_of_beq_eq_true hb.2
      obtain ⟨l, hh, m, hk, h1, h2, h3, h4, hrun⟩ := goSliceB_sound (P := P) he
      have main : ∀ (o : Oper) (a : Act) (w : World) (μ : LMap), o.op = .slice ty x lo hi mx → (∀ y, y ∈ (Op.slice ty x lo hi mx).operands → VR h μ (evalO t y) (a.eval y)) →
          ∃ oa cap' L, segLenAt h p.b p.s = some L ∧ p.n = L ∧ len ≤ cap ∧ cap ≤ cap' ∧ (ex = true → cap' = cap) ∧
          ((∃ k base room, μ p.b = .at k base room ∧ oa = some ⟨k, base + segOff h p.b p.s + p.o, none⟩ ∧ (ex = false → segOff h p.b p.s + p.o + cap' * es ≤ room)) ∨ (μ p.b = .none ∧ oa = none ∧ cap' = 0)) ∧
          (execOp a.eval o).run P w = .ok (.value (.slice (if (if mx.isSome then m else cap') = l then oa else oa.map (·.add (l * P.cellsOf e))) (hh - l) ((if mx.isSome then m else cap') - l))) w := by
        intro o a w μ ho hop
        obtain ⟨hv, v1, v2, v3⟩ := ops hop
        rw [hx] at hv
        obtain ⟨oa, cap', L, hc, g1, g2, g3, g4⟩ := hv.slice_inv
        obtain ⟨_, _, _, hL⟩ := segAt_get g1
        have hnL : p.n = L := by omega
        obtain ⟨q1, q2, q3⟩ := g4 hnL
        refine ⟨oa, cap', L, g1, hnL, g3, q1, q2, q3, ?_⟩
        have hr := hrun true μ a w cap' q1 v1 v2 v3 hmh
        simp [execOp, ho, Instr.sliceAt, Instr.slice, run_underlying hu, hc, hr, cellsOf_pos (show 0 < P.cellsOf e from hb.1)]
      have place : ∀ (oa : Option Addr) (mm : Nat) (μ : LMap), (∃ k base room, μ p.b = .at k base room ∧ oa = some ⟨k, base + segOff h p.b p.s + p.o, none⟩) → mm = m ∨ (¬ m = l ∧ ¬ mm = l) →
          ∃ k base room, μ p.b = .at k base room ∧ (if mm = l then oa else oa.map (·.add (l * P.cellsOf e))) = some ⟨k, base + segOff h p.b p.s + (addO p.o (cond (Nat.beq m l) 0 (mulS l es))), none⟩ := by
        intro oa mm μ ⟨k, base, room, q1, q2⟩ hmm
        refine ⟨k, base, room, q1, ?_⟩
        subst q2
        by_cases hml : m = l
        · have : mm = l := by
            rcases hmm with e | ⟨e, _⟩
            · rw [e, hml]
            · exact absurd hml e
          rw [if_pos this, show Nat.beq m l = true from by rw [hml]; exact Nat.beq_refl l, cond_true, addO_eq]
          rfl
        · have : ¬ mm = l := by
            rcases hmm with e | ⟨_, e⟩
            · rw [e]; exact hml
            · exact e
          rw [if_neg this, beq_ne hml, cond_false, addO_eq, mulS_eq, Option.map_some, addr_add, hes]
          simp [elemSize, Nat.add_assoc]
      rcases br_some hk with ⟨hc, hk⟩ | ⟨hc, hk⟩
      · simp only [Bool.or_eq_true, Nat.blt_eq] at hc
        refine ⟨_, hk, .of_pure fun o a w μ ho hop H => ?_⟩
        obtain ⟨oa, cap', L, g1, g2, g3, g4, g5, g6, hr⟩ := main o a w μ ho hop
        refine ⟨_, hr, .slice _ _ _ _ _ _ _ L g1 (show p.n ≤ L from by omega) (by omega) fun _ => ?_⟩
        have hmx : (Option.map (evalO t) mx).isSome = mx.isSome := by cases mx <;> rfl
        rw [hmx] at hc ⊢
        have hmm : (if mx.isSome then m else cap') = m ∨ (ex = false ∧ mx = none ∧ l < m ∧ (if mx.isSome then m else cap') = cap' ∧ m = cap) := by
          cases mx with
          | some _ => exact .inl rfl
          | none =>
            have := h4 rfl
            cases ex with
            | true => left; simp [g5 rfl, this]
            | false => right; refine ⟨rfl, rfl, ?_, by simp, this⟩; simpa using hc
        refine ⟨?_, fun he => ?_, ?_⟩
        · rcases hmm with e | ⟨_, _, _, e, e2⟩
          · rw [e]; exact Nat.le_refl _
          · rw [e]; omega
        · rcases hmm with e | ⟨e1, e2, _, _, _⟩
          · rw [e]
          · subst e2; simp [e1] at he
        · rcases g6 with ⟨k, base, room, q1, q2, q3⟩ | ⟨q1, q2, q3⟩
          · left
            obtain ⟨k', base', room', p1, p2⟩ := place oa (if mx.isSome then m else cap') μ ⟨k, base, room, q1, q2⟩ (by
              rcases hmm with e | ⟨_, _, e1, e2, e3⟩
              · exact .inl e
              · right; rw [e2]; omega)
            refine ⟨k', base', room', p1, p2, fun he => ?_⟩
            rw [p1] at q1
            cases q1
            rcases hmm with e | ⟨e1, e2, e3, e4, e5⟩
            · have hxf : ex = false := by
                cases ex with
                | false => rfl
                | true => simp at he
              have hmn : mx.isSome = false := by
                cases mx with
                | none => rfl
                | some _ => simp at he
              rw [hmn] at e hc ⊢
              have := q3 hxf
              have hlm : l < m := by
                rcases hc with (hc | hc) | hc
                · rw [hxf] at hc; cases hc
                · cases hc
                · exact hc
              simp only [Bool.false_eq_true, if_false] at e ⊢
              rw [beq_ne (by omega), cond_false, addO_eq, mulS_eq, e]
              have e9 : l * es + (m - l) * es = m * es := by rw [← Nat.add_mul]; congr 1; omega
              rw [e] at this
              show segOff h p.b p.s + (p.o + l * es) + (m - l) * es ≤ room
              omega
            · have := q3 e1
              rw [e4, beq_ne (by omega), cond_false, addO_eq, mulS_eq]
              have e9 : l * es + (cap' - l) * es = cap' * es := by rw [← Nat.add_mul]; congr 1; omega
              show segOff h p.b p.s + (p.o + l * es) + (cap' - l) * es ≤ room
              omega
          · right
            subst q2
            refine ⟨q1, by generalize (if mx.isSome = true then m else cap') = q; split <;> rfl, ?_⟩
            rcases hmm with e | ⟨_, _, _, e, e2⟩
            · rw [e]; omega
            · rw [e]; omega
      · obtain ⟨hl0, hk⟩ := br_fail hk
        have hl0 := Nat.eq_of_beq_eq_true hl0
        subst hl0
        refine ⟨_, hk, .of_pure fun o a w μ ho hop H => ?_⟩
        obtain ⟨oa, cap', L, g1, g2, g3, g4, g5, g6, hr⟩ := main o a w μ ho hop
        have hmx : (Option.map (evalO t) mx).isSome = mx.isSome := by cases mx <;> rfl
        rw [hmx] at hc
        have hmn : mx.isSome = false := by
          cases hq : mx.isSome with
          | false => rfl
          | true => rw [hq] at hc; simp at hc
        rw [hmn] at hr hc
        have hxf : ex = false := by
          cases ex with
          | false => rfl
          | true => simp at hc
        have hm := h4 (by simpa using hmn)
        simp only [Bool.false_eq_true, if_false] at hr
        have ho2 : (if cap' = 0 then oa else oa.map (·.add (0 * P.cellsOf e))) = oa := by
          split
          · rfl
          · cases oa with
            | none => rfl
            | some ad => simp [Addr.add]
        rw [ho2] at hr
        refine ⟨_, hr, .slice _ _ _ _ _ _ _ L g1 (show p.n ≤ L from by omega) (by omega) fun _ => ⟨by omega, fun e => (by cases e), ?_⟩⟩
        rcases g6 with ⟨k, base, room, q1, q2, q3⟩ | ⟨q1, q2, q3⟩
        · exact .inl ⟨k, base, room, q1, q2, fun _ => by simpa using q3 hxf⟩
        · exact .inr ⟨q1, q2, by omega⟩
    · cases he
  · cases he
end
end Go.AM
