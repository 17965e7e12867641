/- A part of a proof about the given program: an abstract machine, what the given functions come to, and plain laws. -/
import Derived.Test.YtkboldcnkkolkaaAMGive
namespace Go.AM
section
variable {α : Type} {P : Program} {r : α} {ro : Nat} {op : Op} {t : List AV} {h : Heap}

/-- Cells and their concrete row. -/
structure RowR (h : Heap) (μ : LMap) (l : List AV) (cs : Array Value) : Prop where
  len : l.length = cs.size
  get : ∀ (i : Nat) (u : AV), l[i]? = some u → isOne u = true ∧ ∃ c, cs[i]? = some c ∧ c.oneCell' = true ∧ VR h μ u c

theorem foldl_set (vs : List Value) : ∀ (off k : Nat) (cs : Array Value), ((vs.zipIdx k).foldl (fun cs (c, j) => cs.setIfInBounds (off + j) c) cs).size = cs.size ∧
    (off + k + vs.length ≤ cs.size → ∀ i, ((vs.zipIdx k).foldl (fun cs (c, j) => cs.setIfInBounds (off + j) c) cs)[i]? = if off + k ≤ i ∧ i < off + k + vs.length then vs[i - (off + k)]? else cs[i]?) := by
  induction vs with
  | nil => intro off k cs; exact ⟨rfl, fun _ i => by simp; omega⟩
  | cons v vs ih =>
    intro off k cs
    simp only [List.zipIdx_cons, List.foldl_cons]
    obtain ⟨h1, h2⟩ := ih off (k + 1) (cs.setIfInBounds (off + k) v)
    refine ⟨by simpa using h1, fun hle i => ?_⟩
    rw [h2 (by simp at hle ⊢; omega), Array.getElem?_setIfInBounds]
    simp only [List.length_cons] at hle ⊢
    by_cases e1 : off + (k + 1) ≤ i ∧ i < off + (k + 1) + vs.length
    · rw [if_pos e1, if_pos (by omega), show i - (off + k) = (i - (off + (k + 1))) + 1 by omega, List.getElem?_cons_succ]
    · rw [if_neg e1]
      by_cases e2 : off + k = i
      · subst e2
        rw [if_pos rfl, if_pos (by omega), if_pos (by omega)]
        simp
      · rw [if_neg e2, if_neg (by omega)]

theorem storeAt_blk {q : Place} {v : AV} {blk : Blk} {K : Heap → Option α} (h0 : 0 < cellsIn v) (hb : q.b = topK 0) (he : storeAt 0 q v [blk] K = some r) :
    ∃ new, K [new] = some r ∧ (∀ (i : Nat) (u : AV), (cellsOfAV v)[i]? = some u → isOne u = true) ∧ new.map segLen = blk.map segLen ∧ lenOf (blk.take q.s) + q.o + (cellsOfAV v).length ≤ (flat blk).length ∧
      ∀ i, (flat new)[i]? = if lenOf (blk.take q.s) + q.o ≤ i ∧ i < lenOf (blk.take q.s) + q.o + (cellsOfAV v).length then (cellsOfAV v)[i - (lenOf (blk.take q.s) + q.o)]? else (flat blk)[i]? := by
  obtain ⟨h', hk, _, _, h1, old, new, hp⟩ := storeAt_puts h0 he
  have ho : old = blk := by
    have := hp.at_
    rw [hb] at this
    rcases blk_cases this with ⟨_, h2, _⟩ | ⟨_, _, _, _, h2, _⟩
    · simpa using h2.symm
    · cases h2
  subst ho
  have hh : h' = [new] := by rw [hp.eq, hb]; rfl
  subst hh
  exact ⟨new, hk, h1, hp.lens, hp.fit, hp.get⟩

theorem movePlace_blk {blk : Blk} {off : Nat} {same : Bool} {K : Place → Option α} (he : movePlace [blk] (newPlace [] blk) off same K = some r) : ∃ q, K q = some r ∧ q.b = topK 0 ∧ lenOf (blk.take q.s) + q.o = off := by
  unfold movePlace at he
  rcases br_some he with ⟨_, hk⟩ | ⟨_, hk⟩
  · exact ⟨_, hk, rfl, by simp [newPlace, addO_eq, lenOf]⟩
  · obtain ⟨_, hk⟩ := br_fail hk
    split at hk
    · rename_i i q n hloc
      obtain ⟨seg, _, _, _, g4⟩ := locate_spec _ _ _ _ _ hloc
      refine ⟨_, hk, rfl, ?_⟩
      have hd : blkD [blk] (topK 0) = blk := by
        cases hp : isPool blk with
        | false => exact blkD_of (blk_top hp rfl)
        | true =>
          exfalso
          have : blkD [blk] (topK 0) = [] := blkD_no rfl (by simp [blk?, hp])
          simp only [newPlace, List.length_nil, this, List.drop_nil, locate, reduceCtorEq] at hloc
      simp only [newPlace, List.length_nil, hd] at g4
      simpa [newPlace] using g4
    · cases hk

theorem cellsOfAV_len (v : AV) : (cellsOfAV v).length = cellsIn v := by cases v <;> first | rfl | exact flat_length _

theorem fillParts_sound {place : Nat → Option (Nat × Nat)} {same : Bool} : ∀ (parts : List (Nat × AV)) (blk : Blk) (K : Blk → Option α), fillParts place same parts blk K = some r →
    ∃ blk', K blk' = some r ∧ blk'.map segLen = blk.map segLen ∧ ∀ (h : Heap) (μ : LMap) (vs : List (Nat × Value)) (cs : Array Value), parts.length = vs.length →
      (∀ (i : Nat) (p : Nat × AV) (q : Nat × Value), parts[i]? = some p → vs[i]? = some q → p.1 = q.1 ∧ VR h μ p.2 q.2) → RowR h μ (flat blk) cs →
      ∃ cs', Instr.fill place cs vs = some cs' ∧ RowR h μ (flat blk') cs'
  | [], blk, K, he => ⟨blk, he, rfl, fun h μ vs cs hl _ hr => by
    cases vs with
    | nil => exact ⟨cs, rfl, hr⟩
    | cons _ _ => simp at hl⟩
  | (i, v) :: parts, blk, K, he => by
    simp only [fillParts] at he
    split at he
    · rename_i off size hp
      obtain ⟨hb, he⟩ := br_fail he
      simp only [Bool.and_eq_true, Nat.blt_eq] at hb
      have hsz := Nat.eq_of_beq_eq_true hb.2
      obtain ⟨q, he, hq0, hq⟩ := movePlace_blk he
      obtain ⟨new, hk, hone, hlen, hfit, hget⟩ := storeAt_blk (by omega) hq0 he
      rw [hq] at hfit hget
      obtain ⟨blk', g1, gl, g2⟩ := fillParts_sound parts new K (by simpa using hk)
      have hfl : (flat new).length = (flat blk).length := by rw [flat_length, flat_length, lenOf_map hlen]
      refine ⟨blk', g1, gl.trans hlen, fun h μ vs cs hl hvs hr => ?_⟩
      cases vs with
      | nil => simp at hl
      | cons x vs =>
      obtain ⟨i', c⟩ := x
      obtain ⟨h1, hv⟩ := hvs 0 _ _ rfl rfl
      simp only at h1 hv
      subst h1
      obtain ⟨hcl, hcs⟩ := hv.cells hone
      have hcl2 := cellsOfAV_len v
      have hsize : c.cells.size = size := by simpa using (by omega : c.cells.toList.length = size)
      have hrl := hr.len
      obtain ⟨f1, f2⟩ := foldl_set c.cells.toList off 0 cs
      have f2 := f2 (by simp; omega)
      have hz : c.cells.zipIdx.foldl (fun cs (c, j) => cs.setIfInBounds (off + j) c) cs = (c.cells.toList.zipIdx 0).foldl (fun cs (c, j) => cs.setIfInBounds (off + j) c) cs := by
        rw [← Array.foldl_toList, Array.toList_zipIdx]
      obtain ⟨cs', g3, g4⟩ := g2 h μ vs ((c.cells.toList.zipIdx 0).foldl (fun cs (c, j) => cs.setIfInBounds (off + j) c) cs) (by simpa using hl)
        (fun j p q hp hq => hvs (j + 1) p q (by simpa using hp) (by simpa using hq)) (by
          refine ⟨by rw [f1]; omega, fun j u hu => ?_⟩
          rw [hget] at hu
          rw [f2]
          simp only [Nat.add_zero, Array.length_toList]
          by_cases e : off ≤ j ∧ j < off + (cellsOfAV v).length
          · rw [if_pos e] at hu
            rw [if_pos (by omega)]
            obtain ⟨u', d, e1, e2, e3, e4⟩ := hcs (j - off) (by omega)
            rw [hu] at e1
            cases e1
            exact ⟨hone _ _ hu, d, e2, e3, e4⟩
          · rw [if_neg e] at hu
            rw [if_neg (by omega)]
            exact hr.get j u hu)
      refine ⟨cs', ?_, g4⟩
      simp only [Instr.fill, hp]
      rw [if_neg (by simp [hsize]; omega)]
      rw [hz]
      exact g3
    · cases he

theorem RowR.agg {μ : LMap} {ss : List AV} {cs : Array Value} (hr : RowR h μ (flat ss) cs) : VR h μ (.agg ss) (.agg cs) := by
  refine .agg _ _ hr.len fun i => ?_
  cases hq : (flat ss)[i]? with
  | none => rw [show (flat ss).getD i .undef = .undef by simp [List.getD_eq_getElem?_getD, hq]]; exact .undef _
  | some u =>
    obtain ⟨_, c, e1, _, e3⟩ := hr.get i u hq
    rw [show (flat ss).getD i .undef = u by simp [List.getD_eq_getElem?_getD, hq], show cs.getD i Go.undef = c by rw [Array.getD_eq_getD_getElem?, e1]; rfl]
    exact e3

theorem zeroOf_row {ty : TypeId} {ss : List AV} (hz : zeroOf P ty = some ss) : ∃ i z, P.info? ty = some i ∧ i.zero = some z ∧ ∀ (h : Heap) (μ : LMap), RowR h μ (flat ss) z.cells := by
  obtain ⟨i, z, h1, h2, h3, h4⟩ := zeroOf_spec hz
  exact ⟨i, z, h1, h2, fun h μ => ⟨h3, fun j u hu => by
    obtain ⟨g1, c, g2, g3, g4⟩ := h4 j u hu
    exact ⟨g1, c, g2, g3, g4 h μ⟩⟩⟩

theorem parts_VR {μ : LMap} {a : Act} {ps : Array (Nat × Operand)} (hx : ∀ x, x ∈ (ps.toList.map (·.2)) → VR h μ (evalO t x) (a.eval x)) :
    (ps.toList.map fun (i, x) => (i, evalO t x)).length = (ps.map fun (i, x) => (i, a.eval x)).toList.length ∧
    ∀ (i : Nat) (p : Nat × AV) (q : Nat × Value), (ps.toList.map fun (i, x) => (i, evalO t x))[i]? = some p → (ps.map fun (i, x) => (i, a.eval x)).toList[i]? = some q → p.1 = q.1 ∧ VR h μ p.2 q.2 := by
  refine ⟨by simp, fun i p q hp hq => ?_⟩
  simp only [List.getElem?_map, Array.toList_map] at hp hq
  cases hc : ps.toList[i]? with
  | none => rw [hc] at hp; cases hp
  | some x =>
    rw [hc] at hp hq
    simp only [Option.map_some, Option.some.injEq] at hp hq
    subst hp; subst hq
    exact ⟨rfl, hx x.2 (List.mem_map.2 ⟨x, List.mem_of_getElem? hc, rfl⟩)⟩

theorem goBuild_sound {ty : TypeId} {ps : Array (Nat × Operand)} {K : AV → Option α} (he : goBuild P ty (ps.toList.map fun (i, x) => (i, evalO t x)) K = some r) :
    ∃ v, K v = some r ∧ OpSem P ro (.build ty ps) t h v h := by
  have ops : ∀ {μ : LMap} {a : Act}, (∀ y, y ∈ (Op.build ty ps).operands → VR h μ (evalO t y) (a.eval y)) → ∀ x, x ∈ (ps.toList.map (·.2)) → VR h μ (evalO t x) (a.eval x) :=
    fun hop x hx => hop x (by simpa [Op.operands] using hx)
  unfold goBuild at he
  split at he
  · rename_i z fs hz hu
    obtain ⟨i, zv, hi, hzv, hrow⟩ := zeroOf_row hz
    split at he
    · rename_i places hpl
      obtain ⟨blk, hk, _, hfill⟩ := fillParts_sound _ _ _ he
      refine ⟨_, hk, .of_pure fun o a w μ ho hop H => ?_⟩
      obtain ⟨p1, p2⟩ := parts_VR (ops hop)
      obtain ⟨cs', f1, f2⟩ := hfill h μ _ zv.cells p1 p2 (hrow h μ)
      refine ⟨.agg cs', ?_, f2.agg⟩
      have hb : P.built ty (ps.map fun (i, x) => (i, a.eval x)).toList = some cs' := by
        simp only [Program.built, hi, hu, hzv, hpl]
        exact f1
      simp [execOp, ho, run_build w ty _ cs' hb]
    · cases he
  · rename_i z n e hz hu
    obtain ⟨i, zv, hi, hzv, hrow⟩ := zeroOf_row hz
    split at he
    · rename_i ie hie
      obtain ⟨blk, hk, _, hfill⟩ := fillParts_sound _ _ _ he
      refine ⟨_, hk, .of_pure fun o a w μ ho hop H => ?_⟩
      obtain ⟨p1, p2⟩ := parts_VR (ops hop)
      obtain ⟨cs', f1, f2⟩ := hfill h μ _ zv.cells p1 p2 (hrow h μ)
      refine ⟨.agg cs', ?_, f2.agg⟩
      have hb : P.built ty (ps.map fun (i, x) => (i, a.eval x)).toList = some cs' := by
        simp only [Program.built, hi, hu, hzv, hie]
        exact f1
      simp [execOp, ho, run_build w ty _ cs' hb]
    · cases he
  · cases he

theorem rep_get (fl : List AV) (h0 : 0 < fl.length) : ∀ (n i : Nat), i < n * fl.length → ((List.replicate n fl).flatten)[i]? = fl[i % fl.length]?
  | 0, i, h => by simp at h
  | n + 1, i, h => by
    rw [List.replicate_succ, List.flatten_cons]
    by_cases hi : i < fl.length
    · rw [List.getElem?_append_left hi, Nat.mod_eq_of_lt hi]
    · rw [List.getElem?_append_right (by omega), rep_get fl h0 n (i - fl.length) (by rw [Nat.succ_mul] at h; omega), Nat.mod_eq_sub_mod (by omega : i ≥ fl.length)]

theorem kindsO_spec : ∀ {fl : List AV} {ks : List (Option IntKind)}, kindsO fl = some ks → ks.length = fl.length ∧ ∀ i, i < fl.length → fl[i]? = some (convC (ks.getD i none) 0)
  | [], ks, h => by
    simp only [kindsO, Option.some.injEq] at h
    subst h
    exact ⟨rfl, fun i hi => by simp at hi⟩
  | v :: vs, ks, h => by
    cases v <;> simp only [kindsO, reduceCtorEq] at h
    case int k n =>
      split at h
      · rename_i ks' hk
        cases hn : n == 0 with
        | false => simp [hn] at h
        | true =>
          simp only [hn, cond_true, Option.some.injEq] at h
          subst h
          have hn : n = 0 := by simpa using hn
          subst hn
          obtain ⟨g1, g2⟩ := kindsO_spec hk
          refine ⟨by simp [g1], fun i hi => ?_⟩
          cases i with
          | zero => rfl
          | succ i => simpa using g2 i (by simpa using hi)
      · cases h
    case bool b =>
      split at h
      · rename_i ks' hk
        cases b with
        | true => simp at h
        | false =>
          simp only [cond_false, Option.some.injEq] at h
          subst h
          obtain ⟨g1, g2⟩ := kindsO_spec hk
          refine ⟨by simp [g1], fun i hi => ?_⟩
          cases i with
          | zero => rfl
          | succ i => simpa using g2 i (by simpa using hi)
      · cases h
theorem zeroRow_spec {lit : Bool} {e : TypeId} {n : Nat} {blk : Blk} (hz : zeroRow P lit e n = some blk) (h0 : 0 < P.cellsOf e) : ∃ i z, P.info? e = some i ∧ i.zero = some z ∧ i.size = P.cellsOf e ∧ z.cells.size = P.cellsOf e ∧ blk ≠ [] ∧ isPool blk = false ∧
    (z.cells.size = P.cellsOf e → ∀ (h : Heap) (μ : LMap), RowR h μ (flat blk) ((Array.range (n * P.cellsOf e)).map fun i => z.cells[i % z.cells.size]!)) := by
  unfold zeroRow at hz
  split at hz
  case h_2 => cases hz
  rename_i ss hss
  cases hcl : Nat.beq (ss.flatMap segValsOf).length (P.cellsOf e) with
  | false => simp only [hcl, cond_false, reduceCtorEq] at hz
  | true =>
  simp only [hcl, cond_true] at hz
  have hcl := Nat.eq_of_beq_eq_true hcl
  obtain ⟨i, z, hi, hzz, hrow⟩ := zeroOf_row hss
  have hzs0 : z.cells.size = P.cellsOf e := by rw [← hcl]; exact (hrow [] fun _ => .absent).len.symm
  have hfl : flat ss = ss.flatMap segValsOf := rfl
  have hsize : i.size = P.cellsOf e := by simp [Program.cellsOf, hi]
  have main : ∀ (l : List AV), l.length = n * P.cellsOf e → (∀ j, j < n * P.cellsOf e → l[j]? = (flat ss)[j % P.cellsOf e]?) → z.cells.size = P.cellsOf e →
      ∀ (h : Heap) (μ : LMap), RowR h μ l ((Array.range (n * P.cellsOf e)).map fun i => z.cells[i % z.cells.size]!) := by
    intro l hl hg hzs h μ
    refine ⟨by simp [hl], fun j u hu => ?_⟩
    have hj : j < n * P.cellsOf e := by
      rcases Nat.lt_or_ge j l.length with h | h
      · omega
      · rw [List.getElem?_eq_none h] at hu; cases hu
    rw [hg j hj] at hu
    obtain ⟨q1, c, q2, q3, q4⟩ := (hrow h μ).get _ u hu
    refine ⟨q1, c, ?_, q3, q4⟩
    have hm : j % z.cells.size < z.cells.size := Nat.mod_lt _ (by omega)
    rw [← hzs] at q2
    simp only [Array.getElem?_map, Array.getElem?_range, hj, if_true, Option.map_some]
    rw [getElem!_pos z.cells _ hm]
    rw [Array.getElem?_eq_getElem hm] at q2
    exact q2
  refine ⟨i, z, hi, hzz, hsize, hzs0, ?_⟩
  split at hz
  · rename_i k m hh
    cases hc : allB (isInt0 k) (ss.flatMap segValsOf) with
    | false => simp [hc] at hz
    | true =>
      simp only [hc, cond_true, Option.some.injEq] at hz
      subst hz
      refine ⟨by simp, by first | rfl | (cases lit <;> rfl), fun hzs => ?_⟩
      have hm := homT_size hh
      have h1 : ∀ j, j < P.cellsOf e → (flat ss)[j]? = some (.int k 0) := by
        intro j hj
        have hlen := (hrow [] fun _ => .absent).len
        have hj' : j < (flat ss).length := by omega
        have hx := allB_spec hc (flat ss)[j] (List.getElem_mem hj')
        rw [List.getElem?_eq_getElem hj']
        congr 1
        generalize (flat ss)[j] = u at hx
        cases u <;> simp only [isInt0, Bool.false_eq_true] at hx
        simp only [Bool.and_eq_true, beq_iff_eq] at hx
        rw [keq_eq hx.1, hx.2]
      refine main _ ?_ (fun j hj => ?_) hzs
      · cases lit <;> simp [flat, segValsOf, mulS_eq, hm]
      · rw [h1 _ (Nat.mod_lt _ h0)]
        cases lit
        · simp only [cond_false, flat, List.flatMap_cons, List.flatMap_nil, List.append_nil]
          exact seg_ints (by rw [mulS_eq, hm]; exact hj)
        · simp [flat, segValsOf, hm, hj]
  · rename_i hh hfl2
    simp only [Option.some.injEq] at hz
    subst hz
    refine ⟨by simp, by first | rfl | (cases lit <;> rfl), fun hzs => ?_⟩
    have hlen := (hrow [] fun _ => .absent).len
    have hl1 : (flat ss).length = 1 := by rw [hfl, hfl2]; rfl
    have h1 : P.cellsOf e = 1 := by omega
    refine main _ (by simp [flat, segValsOf, h1]) (fun j hj => ?_) hzs
    rw [h1, Nat.mod_one, hfl, hfl2]
    simp only [flat, List.flatMap_cons, List.flatMap_nil, List.append_nil]
    rw [seg_bools (by rw [h1] at hj; omega)]
    rfl
  · rename_i hh hfl2
    simp only [Option.some.injEq] at hz
    subst hz
    refine ⟨by simp, rfl, fun hzs => ?_⟩
    have hlen := (hrow [] fun _ => .absent).len
    have hl1 : (flat ss).length = 1 := by rw [hfl, hfl2]; rfl
    have h1 : P.cellsOf e = 1 := by omega
    refine main _ (by simp [flat, segValsOf, h1]) (fun j hj => ?_) hzs
    rw [h1, Nat.mod_one, hfl, hfl2]
    simp only [flat, List.flatMap_cons, List.flatMap_nil, List.append_nil]
    rw [seg_strs (by simp; rw [h1] at hj; omega)]
    simp only [List.getD_eq_getElem?_getD, List.getElem?_replicate]
    rw [if_pos (by rw [h1] at hj; omega)]
    rfl
  · rename_i hh hne
    split at hz
    · rename_i ks hks
      simp only [Option.some.injEq] at hz
      subst hz
      obtain ⟨k1, k2⟩ := kindsO_spec hks
      refine ⟨by simp, by first | rfl | (cases lit <;> rfl), fun hzs => ?_⟩
      have hl1 : (flat ss).length = P.cellsOf e := by rw [hfl]; exact hcl
      have hkl : ks.length = P.cellsOf e := by rw [k1, ← hfl, hl1]
      have hf1 : flat [AV.recs ks (List.replicate (n * ks.length) 0)] = recVals ks (List.replicate (n * ks.length) 0) := by simp [flat, segValsOf]
      refine main _ (by rw [hf1]; simp [recVals, hkl]) (fun j hj => ?_) hzs
      rw [hf1, recVals_get (by simp [hkl]; exact hj), hfl, k2 _ (by rw [← k1, hkl]; exact Nat.mod_lt _ h0), hkl]
      congr 2
      rw [List.getD_eq_getElem?_getD, List.getElem?_replicate]
      split <;> rfl
    · rename_i hks
      simp only [Option.some.injEq] at hz
      subst hz
      refine ⟨by simp, by first | rfl | (cases lit <;> rfl), fun hzs => ?_⟩
      have hlen := (hrow [] fun _ => .absent).len
      have hl1 : (flat ss).length = P.cellsOf e := by omega
      refine main _ ?_ (fun j hj => ?_) hzs
      · simp only [flat, List.flatMap_cons, List.flatMap_nil, List.append_nil, segValsOf]
        rw [← hfl]
        simp [hl1]
      · simp only [flat, List.flatMap_cons, List.flatMap_nil, List.append_nil, segValsOf]
        rw [← hl1] at hj ⊢
        rw [← hfl]
        exact rep_get (flat ss) (by omega) n j hj

theorem VR.newSlice {μ : LMap} {ss : Blk} {k n l c es : Nat} (hp : isPool ss = false) (hne : ss ≠ []) (hlc : l ≤ c) : VR (h ++ [ss]) (addMap μ h.length (.at k 0 n)) (.slice (newPlace h ss) l c es true) (.slice (some ⟨k, 0, none⟩) l c) := by
  cases ss with
  | nil => exact absurd rfl hne
  | cons s rest =>
    have hb := blk_new (h := h) hp
    refine .slice _ _ _ _ _ _ _ (segLen s) (by simp only [segLenAt, newPlace, hb]; rfl) (by simp [newPlace]) hlc fun _ => ⟨Nat.le_refl _, fun _ => rfl, .inl ⟨k, 0, n, by simp [addMap, newPlace], ?_, fun e => by cases e⟩⟩
    simp [newPlace, segOff, lenOf]

theorem HR.allocRow {μ : LMap} {w w' : World} (H : HR ro h μ w) {ss : Blk} (hp : isPool ss = false) {cs : Array Value} {T : TypeId}
    (hheap : w'.heap = w.heap.push (.cells cs T)) (hos : w'.os = w.os) (htape : w'.tape = w.tape) (hout : w'.output = w.output) (hr : RowR h μ (flat ss) cs) :
    HR ro (h ++ [ss]) (addMap μ h.length (.at w.heap.size 0 cs.size)) w' ∧ Ext ro h μ w (h ++ [ss]) (addMap μ h.length (.at w.heap.size 0 cs.size)) w' :=
  H.alloc hp hheap hos htape hout (by rw [hr.len]; exact Nat.le_refl _) fun i u hu => (hr.get i u hu).2

/-- A new table: its pool lies beside. -/
theorem HR.newTable {μ : LMap} {w w' : World} (H : HR ro h μ w) (k : IntKind) {l c : Nat} (hlc : l ≤ c) {cs : Array Value} {T : TypeId}
    (hheap : w'.heap = w.heap.push (.cells cs T)) (hos : w'.os = w.os) (htape : w'.tape = w.tape) (hout : w'.output = w.output) (hsz : cs.size = c) (hcs : ∀ i, i < c → cs[i]? = some (.slice none 0 0)) :
    ∃ μ', HR ro (h ++ [[.pool k (List.replicate c [])], [.hdr h.length ((List.range c).map fun i => (i, 0))]]) μ' w' ∧ Ext ro h μ w (h ++ [[.pool k (List.replicate c [])], [.hdr h.length ((List.range c).map fun i => (i, 0))]]) μ' w' ∧
      VR (h ++ [[.pool k (List.replicate c [])], [.hdr h.length ((List.range c).map fun i => (i, 0))]]) μ' (.slice ⟨topK (h.length + 1), 0, 0, c⟩ l c 1 true) (.slice (some ⟨w.heap.size, 0, none⟩) l c) := by
  obtain ⟨H1, X1⟩ := H.newPool k c
  have hfl : ∀ {i : Nat} {u : AV}, (flat [AV.hdr h.length ((List.range c).map fun i => (i, 0))])[i]? = some u → i < c ∧ u = idCell h.length (i, 0) := by
    intro i u hu
    simp only [flat, List.flatMap_cons, List.flatMap_nil, List.append_nil, segVals, segValsOf, List.map_map, List.getElem?_map] at hu
    rcases Nat.lt_or_ge i c with hi | hi
    · rw [List.getElem?_range hi] at hu
      cases hu
      exact ⟨hi, rfl⟩
    · rw [List.getElem?_eq_none (by simpa using hi)] at hu
      cases hu
  have hlen1 : (h ++ [[AV.pool k (List.replicate c [])]]).length = h.length + 1 := by simp
  have hr := H1.alloc (ss := [.hdr h.length ((List.range c).map fun i => (i, 0))]) rfl hheap hos htape hout (by simp [flat, segValsOf, hsz]) fun i u hu => by
    obtain ⟨hi, rfl⟩ := hfl hu
    refine ⟨_, hcs i hi, rfl, .slice _ 0 0 1 false none 0 0 ?_ (Nat.le_refl _) (Nat.le_refl _) fun _ => ⟨Nat.le_refl _, (fun e => by cases e), .inr ⟨if_pos rfl, rfl, rfl⟩⟩⟩
    have : blk? (h ++ [[AV.pool k (List.replicate c [])]]) (rowK h.length i) = some [.vec k []] := blk_row (k := k) (rows := List.replicate c []) (by simp) (by simp [hi])
    simp only [segLenAt, this]
    rfl
  have hap : h ++ [[AV.pool k (List.replicate c [])], [AV.hdr h.length ((List.range c).map fun i => (i, 0))]] = (h ++ [[AV.pool k (List.replicate c [])]]) ++ [[AV.hdr h.length ((List.range c).map fun i => (i, 0))]] := by simp
  rw [hap]
  rw [hlen1, hsz] at hr
  refine ⟨_, hr.1, X1.trans hr.2, ?_⟩
  have hb := blk_new (h := h ++ [[AV.pool k (List.replicate c [])]]) (ss := [.hdr h.length ((List.range c).map fun i => (i, 0))]) rfl
  rw [hlen1] at hb
  refine .slice _ _ _ _ _ _ _ c ?_ (Nat.le_refl _) hlc fun _ => ⟨Nat.le_refl _, fun _ => rfl, .inl ⟨w.heap.size, 0, c, by simp [addMap], ?_, fun e => by cases e⟩⟩
  · simp only [segLenAt, hb]
    simp [segLen]
  · simp [segOff, lenOf]
theorem tableOf_spec {e : TypeId} {ps : List (Nat × AV)} {k : IntKind} (ht : tableOf P e ps = some k) : ps = [] ∧ P.cellsOf e = 1 ∧ ∃ i z, P.info? e = some i ∧ i.zero = some z ∧ z.cells = #[.slice none 0 0] := by
  unfold tableOf at ht
  split at ht
  · split at ht
    · rename_i hz
      cases hb : Nat.beq (elemSize P e) 1 with
      | false => rw [hb] at ht; cases ht
      | true =>
        obtain ⟨i, z, h1, h2, h3, h4⟩ := zeroOf_spec hz
        refine ⟨rfl, Nat.eq_of_beq_eq_true hb, i, z, h1, h2, ?_⟩
        have h3 : 1 = z.cells.size := h3
        obtain ⟨_, c, h5, _, h6⟩ := h4 0 .nils rfl
        have h7 := h6 [] fun _ => .absent
        cases h7
        apply Array.ext
        · exact h3.symm
        · intro j h8 h9
          have : j = 0 := by simp at h9; omega
          subst this
          have := (Array.getElem?_eq_some_iff.1 h5).2
          rw [this]
          rfl
    · cases ht
  · cases ht

theorem goBuildSlice_sound {ty : TypeId} {n : Nat} {ps : Array (Nat × Operand)} {K : AV → Heap → Option α} (he : goBuildSlice P ty n (ps.toList.map fun (i, x) => (i, evalO t x)) h K = some r) :
    ∃ v h', K v h' = some r ∧ OpSem P ro (.buildSlice ty n ps) t h v h' := by
  have ops : ∀ {μ : LMap} {a : Act}, (∀ y, y ∈ (Op.buildSlice ty n ps).operands → VR h μ (evalO t y) (a.eval y)) → ∀ x, x ∈ (ps.toList.map (·.2)) → VR h μ (evalO t x) (a.eval x) :=
    fun hop x hx => hop x (by simpa [Op.operands] using hx)
  unfold goBuildSlice at he
  split at he
  case h_2 => cases he
  rename_i e hu
  split at he
  · rename_i k hk
    obtain ⟨hb, hk2⟩ := br_fail he
    obtain ⟨hps, h1, i, zv, hi, hzv, hzc⟩ := tableOf_spec hk
    have hps : ps = #[] := by
      have : ps.toList = [] := by simpa using hps
      exact Array.toList_eq_nil_iff.1 this
    subst hps
    refine ⟨_, _, hk2, .of_value fun o a w μ ho hop H => ?_⟩
    rw [Nat.ble_eq] at hb
    have hcs : ((Array.range (n * P.cellsOf e)).map fun j => zv.cells[j % zv.cells.size]!) = (Array.range n).map fun _ => Value.slice none 0 0 := by
      rw [h1, Nat.mul_one, hzc]
      refine Array.map_congr_left fun j _ => ?_
      simp [Nat.mod_one]
    obtain ⟨μ', q1, q2, q3⟩ := H.newTable (w' := w.alloc (.cells ((Array.range n).map fun _ => Value.slice none 0 0) e)) k (Nat.le_refl n) rfl rfl rfl rfl (by simp) (fun i hi => by simp [hi])
    refine ⟨_, _, μ', ?_, q3, q1, q2⟩
    have hpos : 0 < P.cellsOf e := by omega
    have hlim : ¬ n * P.cellsOf e > 2 ^ 24 := by rw [h1]; omega
    have f1 : Instr.fill (fun i => some (i * P.cellsOf e, P.cellsOf e)) ((Array.range n).map fun _ => Value.slice none 0 0) ((#[] : Array (Nat × Operand)).map fun x => (x.fst, a.eval x.snd)).toList = some ((Array.range n).map fun _ => Value.slice none 0 0) := by simp [Instr.fill]
    by_cases h0 : n * P.cellsOf e = 0
    · have e0 : ((Array.range (n * P.cellsOf e)).map fun j => (#[] : Array Value)[j % (#[] : Array Value).size]!) = (Array.range n).map fun _ => Value.slice none 0 0 := by
        have : n = 0 := by rw [h1] at h0; omega
        subst this
        simp
      simp only [execOp, ho, Instr.buildSlice, Sem.run_bind, run_underlying hu, Result.andThen_ok, cellsOf_pos hpos, if_neg hlim, if_pos h0, Sem.run_pure, e0, f1, newRow, run_newObj_alloc]
    · simp only [execOp, ho, Instr.buildSlice, Sem.run_bind, run_underlying hu, Result.andThen_ok, cellsOf_pos hpos, if_neg hlim, if_neg h0, run_zeroValue hi hzv, Sem.run_pure, hcs, f1, newRow, run_newObj_alloc]
  split at he
  case h_2 => cases he
  rename_i z hz
  obtain ⟨hb, he⟩ := br_fail he
  simp only [Bool.and_eq_true, Nat.ble_eq, Nat.blt_eq] at hb
  obtain ⟨i, zv, hi, hzv, hsz, hzs, hne, _, hrow⟩ := zeroRow_spec hz hb.2
  obtain ⟨blk, he2, hbl, hfill⟩ := fillParts_sound _ _ _ he
  obtain ⟨hpl, hk⟩ := br_fail he2
  have hpl : isPool blk = false := by simpa using hpl
  refine ⟨_, _, hk, .of_value fun o a w μ ho hop H => ?_⟩
  obtain ⟨p1, p2⟩ := parts_VR (ops hop)
  obtain ⟨cs', f1, f2⟩ := hfill h μ _ _ p1 p2 (hrow hzs h μ)
  obtain ⟨r1, r2⟩ := H.allocRow hpl (w' := w.alloc (.cells cs' e)) (ss := blk) (T := e) rfl rfl rfl rfl f2
  have hne' : blk ≠ [] := by
    intro hbe
    rw [hbe] at hbl
    cases z with
    | nil => exact hne rfl
    | cons s rest => simp at hbl
  refine ⟨_, _, _, ?_, VR.newSlice hpl hne' (Nat.le_refl _), r1, r2⟩
  have hel : elemSize P e = P.cellsOf e := rfl
  rw [hel] at f1
  have f1' : Instr.fill (fun i => some (i * P.cellsOf e, P.cellsOf e)) ((Array.range (n * P.cellsOf e)).map fun j => zv.cells[j % zv.cells.size]!) (ps.map fun x => (x.fst, a.eval x.snd)).toList = some cs' := f1
  have hlim : ¬ n * P.cellsOf e > 2 ^ 24 := by
    have := hb.1
    rw [hel] at this
    omega
  by_cases h0 : n * P.cellsOf e = 0
  · have e0 : ((Array.range (n * P.cellsOf e)).map fun j => (#[] : Array Value)[j % (#[] : Array Value).size]!) = (Array.range (n * P.cellsOf e)).map fun j => zv.cells[j % zv.cells.size]! := by
      rw [h0]; simp
    simp only [execOp, ho, Instr.buildSlice, Sem.run_bind, run_underlying hu, Result.andThen_ok, cellsOf_pos (show 0 < P.cellsOf e from hb.2), if_neg hlim, if_pos h0, Sem.run_pure, e0, f1', newRow, run_newObj_alloc]
  · simp only [execOp, ho, Instr.buildSlice, Sem.run_bind, run_underlying hu, Result.andThen_ok, cellsOf_pos (show 0 < P.cellsOf e from hb.2), if_neg hlim, if_neg h0, run_zeroValue hi hzv, Sem.run_pure, f1', newRow, run_newObj_alloc]

theorem goMakeSlice_sound {ty : TypeId} {l c : Operand} {K : AV → Heap → Option α} (he : goMakeSlice P ty (evalO t l) (evalO t c) h K = some r) :
    ∃ v h', K v h' = some r ∧ OpSem P ro (.makeSlice ty l c) t h v h' := by
  unfold goMakeSlice at he
  split at he
  case h_2 => cases he
  rename_i e kl lv kc cv hu hl hc
  obtain ⟨hb, he⟩ := br_fail he
  simp only [Bool.and_eq_true, decide_eq_true_eq, Nat.ble_eq, Nat.blt_eq] at hb
  obtain ⟨⟨⟨⟨b1, b2⟩, b3⟩, b4⟩, b5⟩ := hb
  have run : ∀ (o : Oper) (a : Act) (w : World) (i : TypeInfo) (zv : Value), o.op = .makeSlice ty l c → a.eval l = .int kl lv → a.eval c = .int kc cv → P.info? e = some i → i.zero = some zv →
      (execOp a.eval o).run P w = .ok (.value (.slice (some ⟨w.heap.size, 0, none⟩) lv.toNat cv.toNat)) (w.alloc (.cells ((Array.range (cv.toNat * P.cellsOf e)).map fun i => zv.cells[i % zv.cells.size]!) e)) := by
    intro o a w i zv ho hql hqc hi hzv
    have hwl : IntKind.i64.wrap lv = lv := by
      refine wrap_fits ?_
      rw [fits_iff]
      simp only [kmin, kmax]
      omega
    have hwc : IntKind.i64.wrap cv = cv := by
      refine wrap_fits ?_
      rw [fits_iff]
      simp only [kmin, kmax]
      omega
    have hbytes : (P.bytesOf e : Int) = i.bytes := by simp [Program.bytesOf, hi]
    have hby : (i.bytes : Int) * cv ≤ 2 ^ 48 := by
      have h1 : (i.bytes : Int) ≤ 65536 := by omega
      have h2 : (i.bytes : Int) * cv ≤ 65536 * 1073741824 := Int.mul_le_mul h1 b3 (by omega) (by omega)
      omega
    have hcond : ((decide (cv < 0) || decide ((i.bytes : Int) * cv > 2 ^ 48)) || decide (lv < 0) || decide (lv > cv)) = false := by
      simp only [Bool.or_eq_false_iff, decide_eq_false_iff_not]
      omega
    have hti : ∀ w, (typeInfo e).run P w = .ok i w := fun w => by simp [typeInfo, hi]
    by_cases h0 : cv.toNat * P.cellsOf e = 0
    · have e0 : ((Array.range (cv.toNat * P.cellsOf e)).map fun j => (#[] : Array Value)[j % (#[] : Array Value).size]!) = (Array.range (cv.toNat * P.cellsOf e)).map fun j => zv.cells[j % zv.cells.size]! := by
        rw [h0]; simp
      simp only [execOp, ho, hql, hqc, Instr.makeSlice, Sem.run_bind, run_underlying hu, Result.andThen_ok, asInt, asIntOf, Sem.run_pure, hti, hwl, hwc, hcond, Bool.false_eq_true, if_false, run_askRoom, cellsOf_pos (show 0 < P.cellsOf e from b5), if_pos h0, e0, newRow, run_newObj_alloc]
    · simp only [execOp, ho, hql, hqc, Instr.makeSlice, Sem.run_bind, run_underlying hu, Result.andThen_ok, asInt, asIntOf, Sem.run_pure, hti, hwl, hwc, hcond, Bool.false_eq_true, if_false, run_askRoom, cellsOf_pos (show 0 < P.cellsOf e from b5), if_neg h0, run_zeroValue hi hzv, newRow, run_newObj_alloc]
  have hops : ∀ {μ : LMap} {a : Act}, (∀ x, x ∈ (Op.makeSlice ty l c).operands → VR h μ (evalO t x) (a.eval x)) → a.eval l = .int kl lv ∧ a.eval c = .int kc cv := by
    intro μ a hop
    have hvl := hop l (by simp [Op.operands])
    have hvc := hop c (by simp [Op.operands])
    rw [hl] at hvl
    rw [hc] at hvc
    generalize a.eval l = ql at *
    generalize a.eval c = qc at *
    cases hvl with | int _ _ fl =>
    cases hvc with | int _ _ fc =>
    exact ⟨rfl, rfl⟩
  split at he
  · rename_i k hk
    obtain ⟨_, h1, i, zv, hi, hzv, hzc⟩ := tableOf_spec hk
    refine ⟨_, _, he, .of_value fun o a w μ ho hop H => ?_⟩
    obtain ⟨hql, hqc⟩ := hops hop
    obtain ⟨μ', q1, q2, q3⟩ := H.newTable (w' := w.alloc (.cells ((Array.range (cv.toNat * P.cellsOf e)).map fun i => zv.cells[i % zv.cells.size]!) e)) k (show lv.toNat ≤ cv.toNat by omega) rfl rfl rfl rfl (by simp [h1]) (fun j hj => by
      rw [hzc, h1]
      simp [hj, Nat.mod_one])
    exact ⟨_, _, μ', run o a w i zv ho hql hqc hi hzv, q3, q1, q2⟩
  split at he
  case h_2 => cases he
  rename_i blk hz
  obtain ⟨i, zv, hi, hzv, hsz, hzs, hne, hpl, hrow⟩ := zeroRow_spec hz b5
  refine ⟨_, _, he, .of_value fun o a w μ ho hop H => ?_⟩
  obtain ⟨hql, hqc⟩ := hops hop
  obtain ⟨r1, r2⟩ := H.allocRow hpl (w' := w.alloc (.cells ((Array.range (cv.toNat * P.cellsOf e)).map fun i => zv.cells[i % zv.cells.size]!) e)) (T := e) rfl rfl rfl rfl (hrow hzs h μ)
  exact ⟨_, _, _, run o a w i zv ho hql hqc hi hzv, VR.newSlice hpl hne (by omega : lv.toNat ≤ cv.toNat), r1, r2⟩

theorem goLen_sound {ty : TypeId} {x : Operand} {c : Call} {K : AV → Option α} (hcall : c = ⟨.builtin .len, #[x], #[ty]⟩) (he : goLen P ty (evalO t x) K = some r) :
    ∃ v, K v = some r ∧ OpSem P ro (.call c) t h v h := by
  subst hcall
  have ops : ∀ {μ : LMap} {a : Act}, (∀ y, y ∈ (Op.call ⟨.builtin .len, #[x], #[ty]⟩).operands → VR h μ (evalO t y) (a.eval y)) → VR h μ (evalO t x) (a.eval x) :=
    fun hop => hop x (by simp [Op.operands, Call.operands])
  unfold goLen at he
  have fitsN : ∀ n : Nat, n ≤ 9223372036854775807 → fits .i64 (n : Int) = true := fun n hn => by rw [fits_iff]; simp only [kmin, kmax]; omega
  split at he
  · rename_i e p len cap es ex hu hx
    obtain ⟨hb, hk⟩ := br_fail he
    rw [Nat.ble_eq] at hb
    refine ⟨_, hk, .of_pure fun o a w μ ho hop H => ?_⟩
    have hv := ops hop
    rw [hx] at hv
    generalize hq : a.eval x = q at *
    obtain ⟨oa, cap', L, rfl, _⟩ := hv.slice_inv
    exact ⟨_, by simp [execOp, ho, resolve, invoke, builtin, hq, Builtin.len_, run_underlying hu, goInt], .int _ _ (fitsN _ hb)⟩
  · rename_i e hu hx
    refine ⟨_, he, .of_pure fun o a w μ ho hop H => ?_⟩
    have hv := ops hop
    rw [hx] at hv
    generalize hq : a.eval x = q at *
    cases hv
    exact ⟨_, by simp [execOp, ho, resolve, invoke, builtin, hq, Builtin.len_, run_underlying hu, goInt], .int _ _ (by decide)⟩
  · rename_i s hu hx
    obtain ⟨hb, hk⟩ := br_fail he
    rw [Nat.ble_eq] at hb
    refine ⟨_, hk, .of_pure fun o a w μ ho hop H => ?_⟩
    have hv := ops hop
    rw [hx] at hv
    generalize hq : a.eval x = q at *
    cases hv
    exact ⟨.int .i64 (s.length : Int), by simp [execOp, ho, resolve, invoke, builtin, hq, Builtin.len_, run_underlying hu, goInt]; rfl, .int _ _ (fitsN _ hb)⟩
  · rename_i n e hu
    obtain ⟨hb, hk⟩ := br_fail he
    rw [Nat.ble_eq] at hb
    refine ⟨_, hk, .of_pure fun o a w μ ho hop H => ?_⟩
    exact ⟨_, by simp [execOp, ho, resolve, invoke, builtin, Builtin.len_, run_underlying hu, goInt], .int _ _ (fitsN _ hb)⟩
  · cases he
end
end Go.AM
