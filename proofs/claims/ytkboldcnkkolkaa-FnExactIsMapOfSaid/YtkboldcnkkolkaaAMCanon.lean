/- A part of a proof about the given program: an abstract machine, what the given functions come to, and plain laws. -/
import Derived.Test.YtkboldcnkkolkaaAMLift
namespace Go.AM
section
variable {α : Type} {r : α} {P : Program}

theorem distinctB_spec : ∀ {bs : List Nat}, distinctB bs = true → ∀ i j (hi : i < bs.length) (hj : j < bs.length), bs[i] = bs[j] → i = j := by
  intro bs
  induction bs with
  | nil => intro _ i j hi; simp at hi
  | cons b bs ih =>
    intro hd i j hi hj e
    simp only [distinctB] at hd
    cases hq : elemB b bs with
    | true => rw [hq] at hd; cases hd
    | false =>
      rw [hq] at hd
      have hn : b ∉ bs := fun hm => by rw [elemB_of hm] at hq; cases hq
      cases i with
      | zero =>
        cases j with
        | zero => rfl
        | succ j =>
          simp only [List.getElem_cons_zero, List.getElem_cons_succ] at e
          exact absurd (e ▸ List.getElem_mem _) hn
      | succ i =>
        cases j with
        | zero =>
          simp only [List.getElem_cons_zero, List.getElem_cons_succ] at e
          exact absurd (e ▸ List.getElem_mem _) hn
        | succ j =>
          simp only [List.getElem_cons_succ] at e
          exact congrArg (· + 1) (ih hd i j (by simpa using hi) (by simpa using hj) e)

theorem idxOf_spec {b : Nat} : ∀ {bs : List Nat}, b ∈ bs → bs[idxOf b bs]? = some b := by
  intro bs
  induction bs with
  | nil => intro h; simp at h
  | cons c bs ih =>
    intro h
    simp only [idxOf]
    cases hq : Nat.beq b c with
    | true => rw [cond_true, Nat.eq_of_beq_eq_true hq]; rfl
    | false =>
      rw [cond_false]
      rcases List.mem_cons.1 h with rfl | h
      · simp at hq
      · simpa using ih h

theorem allIn_spec {bs : List Nat} : ∀ {l : List Nat}, allIn bs l = true → ∀ b ∈ l, b ∈ bs := by
  intro l
  induction l with
  | nil => intro _ b hb; simp at hb
  | cons c l ih =>
    intro h b hb
    simp only [allIn] at h
    cases hq : elemB c bs with
    | false => rw [hq] at h; cases h
    | true =>
      rw [hq] at h
      rcases List.mem_cons.1 hb with rfl | hb
      · exact elemB_spec hq
      · exact ih h b hb

mutual
theorem ren_ren {σ ρ : Nat → Nat} : ∀ (v : AV), (∀ b ∈ refs v, ρ (σ b) = b) → ren ρ (ren σ v) = v
  | .ptr p, h => by simp only [ren, renK]; rw [h p.b.b (by simp [refs])]
  | .rptr p _, h => by simp only [ren, renK]; rw [h p.b.b (by simp [refs])]
  | .slice p l c es ex, h => by simp only [ren, renK]; rw [h p.b.b (by simp [refs])]
  | .hdr b ids, h => by simp only [ren]; rw [h b (by simp [refs])]
  | .pool _ _, _ => by simp only [ren]
  | .strs _, _ => by simp only [ren]
  | .func f caps, h => by simp only [ren]; rw [renL_renL caps (by simpa [refs] using h)]
  | .vals vs, h => by simp only [ren]; rw [renL_renL vs (by simpa [refs] using h)]
  | .agg ss, h => by simp only [ren]; rw [renL_renL ss (by simpa [refs] using h)]
  | .tuple vs, h => by simp only [ren]; rw [renL_renL vs (by simpa [refs] using h)]
  | .undef, _ => by simp only [ren]
  | .bool _, _ => by simp only [ren]
  | .int _ _, _ => by simp only [ren]
  | .str _, _ => by simp only [ren]
  | .nils, _ => by simp only [ren]
  | .ints _ _ _, _ => by simp only [ren]
  | .vec _ _, _ => by simp only [ren]
  | .bools _ _, _ => by simp only [ren]
  | .recs _ _, _ => by simp only [ren]
theorem renL_renL {σ ρ : Nat → Nat} : ∀ (l : List AV), (∀ b ∈ refsL l, ρ (σ b) = b) → renL ρ (renL σ l) = l
  | [], _ => by simp only [renL]
  | v :: vs, h => by
    simp only [renL]
    rw [ren_ren v (fun b hb => h b (by simp [refsL, hb])), renL_renL vs (fun b hb => h b (by simp [refsL, hb]))]
end

mutual
theorem refs_val : ∀ (seg v : AV), v ∈ segVals seg → ∀ b ∈ refs v, b ∈ refs seg
  | .vals vs, v, hv, b, hb => by
    simp only [refs]
    exact refs_mem vs v (by simpa [segValsOf] using hv) b hb
  | .ints k n f, v, hv, b, hb => by
    simp only [segValsOf, List.mem_map] at hv
    obtain ⟨i, _, rfl⟩ := hv
    simp [refs] at hb
  | .vec k xs, v, hv, b, hb => by
    simp only [segValsOf, List.mem_map] at hv
    obtain ⟨i, _, rfl⟩ := hv
    simp [refs] at hb
  | .bools n f, v, hv, b, hb => by
    simp only [segValsOf, List.mem_map] at hv
    obtain ⟨i, _, rfl⟩ := hv
    simp [refs] at hb
  | .recs ks xs, v, hv, b, hb => by
    simp only [segValsOf, recVals, List.mem_map] at hv
    obtain ⟨i, _, rfl⟩ := hv
    revert hb
    cases ks.getD (i % ks.length) none <;> simp [convC, refs]
  | .hdr pb ids, v, hv, b, hb => by
    simp only [segValsOf, List.mem_map] at hv
    obtain ⟨q, _, rfl⟩ := hv
    simpa [refs, idCell] using hb
  | .strs xs, v, hv, b, hb => by
    simp only [segValsOf, List.mem_map] at hv
    obtain ⟨x, _, rfl⟩ := hv
    simp [refs] at hb
  | .pool .., v, hv, _, _ => by simp [segValsOf] at hv
  | .rptr .., v, hv, _, _ => by simp [segValsOf] at hv
  | .ptr _, v, hv, _, _ => by simp [segValsOf] at hv
  | .slice .., v, hv, _, _ => by simp [segValsOf] at hv
  | .func .., v, hv, _, _ => by simp [segValsOf] at hv
  | .agg _, v, hv, _, _ => by simp [segValsOf] at hv
  | .tuple _, v, hv, _, _ => by simp [segValsOf] at hv
  | .undef, v, hv, _, _ => by simp [segValsOf] at hv
  | .bool _, v, hv, _, _ => by simp [segValsOf] at hv
  | .int _ _, v, hv, _, _ => by simp [segValsOf] at hv
  | .str _, v, hv, _, _ => by simp [segValsOf] at hv
  | .nils, v, hv, _, _ => by simp [segValsOf] at hv
theorem refs_mem : ∀ (l : List AV) (v : AV), v ∈ l → ∀ b ∈ refs v, b ∈ refsL l
  | [], v, hv, _, _ => by simp at hv
  | u :: us, v, hv, b, hb => by
    simp only [refsL, List.mem_append]
    rcases List.mem_cons.1 hv with rfl | hv
    · exact .inl hb
    · exact .inr (refs_mem us v hv b hb)
end

theorem getAll_get (h : Heap) : ∀ (bs : List Nat) (i : Nat), (getAll h bs)[i]? = (bs[i]?).map fun b => h.getD b [] := by
  intro bs
  induction bs with
  | nil => intro i; simp [getAll]
  | cons b bs ih =>
    intro i
    cases i with
    | zero => rfl
    | succ i => simpa [getAll] using ih i
theorem getAll_len (h : Heap) (bs : List Nat) : (getAll h bs).length = bs.length := by
  induction bs with
  | nil => rfl
  | cons b bs ih => simp [getAll, ih]

theorem setAll_len : ∀ (bs : List Nat) (xs : List Blk) (h : Heap), (setAll bs xs h).length = h.length := by
  intro bs
  induction bs with
  | nil => intro xs h; cases xs <;> rfl
  | cons b bs ih =>
    intro xs h
    cases xs with
    | nil => rfl
    | cons x xs => simp [setAll, ih]
theorem setAll_other {b : Nat} : ∀ (bs : List Nat) (xs : List Blk) (h : Heap), b ∉ bs → (setAll bs xs h)[b]? = h[b]? := by
  intro bs
  induction bs with
  | nil => intro xs h _; cases xs <;> rfl
  | cons c bs ih =>
    intro xs h hb
    cases xs with
    | nil => rfl
    | cons x xs =>
      simp only [List.mem_cons, not_or] at hb
      simp only [setAll]
      rw [ih xs _ hb.2, List.getElem?_set, if_neg (Ne.symm hb.1)]
theorem setAll_get : ∀ (bs : List Nat) (xs : List Blk) (h : Heap) (i : Nat) (hi : i < bs.length), distinctB bs = true → (∀ b ∈ bs, b < h.length) → i < xs.length → (setAll bs xs h)[bs[i]]? = xs[i]? := by
  intro bs
  induction bs with
  | nil => intro xs h i hi; simp at hi
  | cons c bs ih =>
    intro xs h i hi hd hlt hx
    cases xs with
    | nil => simp at hx
    | cons x xs =>
      simp only [setAll]
      have hd' : elemB c bs = false ∧ distinctB bs = true := by
        simp only [distinctB] at hd
        cases hq : elemB c bs with
        | true => rw [hq] at hd; cases hd
        | false => rw [hq] at hd; exact ⟨rfl, hd⟩
      have hn : c ∉ bs := fun hm => by rw [elemB_of hm] at hd'; cases hd'.1
      cases i with
      | zero =>
        simp only [List.getElem_cons_zero]
        rw [setAll_other bs xs _ hn, List.getElem?_set, if_pos rfl, if_pos (hlt c (by simp))]
        rfl
      | succ i =>
        simp only [List.getElem_cons_succ, List.getElem?_cons_succ]
        exact ih xs _ i (by simpa using hi) hd'.2 (fun b hb => by rw [List.length_set]; exact hlt b (by simp [hb])) (by simpa using hx)

theorem rhoOf_lt {bs : List Nat} {n i : Nat} (hi : i < bs.length) : rhoOf bs n i = bs[i] := by
  unfold rhoOf
  rw [List.getElem?_eq_getElem hi]
theorem rhoOf_ge {bs : List Nat} {n j : Nat} : rhoOf bs n (bs.length + j) = n + j := by
  unfold rhoOf
  rw [List.getElem?_eq_none (by omega)]
  simp

theorem mem_belows {n b : Nat} : ∀ {l : List Nat}, b ∈ belows n l → b < n := by
  intro l
  induction l with
  | nil => intro h; simp [belows] at h
  | cons c l ih =>
    intro h
    simp only [belows] at h
    cases hq : Nat.blt c n with
    | false => rw [hq] at h; exact ih h
    | true =>
      rw [hq] at h
      rcases List.mem_cons.1 h with rfl | h
      · simpa using hq
      · exact ih h
theorem mem_aboves {n b : Nat} : ∀ {l : List Nat}, b ∈ aboves n l → n ≤ b := by
  intro l
  induction l with
  | nil => intro h; simp [aboves] at h
  | cons c l ih =>
    intro h
    simp only [aboves] at h
    cases hq : Nat.blt c n with
    | true => rw [hq] at h; exact ih h
    | false =>
      rw [hq] at h
      rcases List.mem_cons.1 h with rfl | h
      · have : ¬ b < n := fun e => by rw [← Nat.blt_eq] at e; rw [e] at hq; cases hq
        omega
      · exact ih h

mutual
theorem ren_id : ∀ v : AV, ren (fun b => b) v = v
  | .ptr p => by simp only [ren, renK]
  | .rptr p c => by simp only [ren, renK]
  | .recs ks xs => by simp only [ren]
  | .pool _ _ => by simp only [ren]
  | .hdr _ _ => by simp only [ren]
  | .strs _ => by simp only [ren]
  | .slice p l c es ex => by simp only [ren, renK]
  | .func f caps => by simp only [ren, renL_id caps]
  | .vals vs => by simp only [ren, renL_id vs]
  | .agg ss => by simp only [ren, renL_id ss]
  | .tuple vs => by simp only [ren, renL_id vs]
  | .undef => by simp only [ren]
  | .bool b => by simp only [ren]
  | .int k n => by simp only [ren]
  | .str s => by simp only [ren]
  | .nils => by simp only [ren]
  | .ints k n f => by simp only [ren]
  | .vec k xs => by simp only [ren]
  | .bools n f => by simp only [ren]
theorem renL_id : ∀ l : List AV, renL (fun b => b) l = l
  | [] => by simp only [renL]
  | v :: vs => by simp only [renL, ren_id v, renL_id vs]
end

mutual
theorem refs_ren {ρ : Nat → Nat} : ∀ v : AV, refs (ren ρ v) = (refs v).map ρ
  | .ptr p => by simp only [ren, renK, refs, List.map]
  | .rptr p c => by simp only [ren, renK, refs, List.map]
  | .recs ks xs => by simp only [ren, refs, List.map]
  | .pool _ _ => by simp only [ren, refs, List.map]
  | .hdr _ _ => by simp only [ren, refs, List.map]
  | .strs _ => by simp only [ren, refs, List.map]
  | .slice p l c es ex => by simp only [ren, renK, refs, List.map]
  | .func f caps => by simp only [ren, refs, refsL_ren caps]
  | .vals vs => by simp only [ren, refs, refsL_ren vs]
  | .agg ss => by simp only [ren, refs, refsL_ren ss]
  | .tuple vs => by simp only [ren, refs, refsL_ren vs]
  | .undef => by simp only [ren, refs, List.map]
  | .bool b => by simp only [ren, refs, List.map]
  | .int k n => by simp only [ren, refs, List.map]
  | .str s => by simp only [ren, refs, List.map]
  | .nils => by simp only [ren, refs, List.map]
  | .ints k n f => by simp only [ren, refs, List.map]
  | .vec k xs => by simp only [ren, refs, List.map]
  | .bools n f => by simp only [ren, refs, List.map]
theorem refsL_ren {ρ : Nat → Nat} : ∀ l : List AV, refsL (renL ρ l) = (refsL l).map ρ
  | [] => by simp only [renL, refsL, List.map]
  | v :: vs => by simp only [renL, refsL, List.map_append, refs_ren v, refsL_ren vs]
end

/-- Some blocks of a heap as a heap of their own. -/
theorem canon_core {bs : List Nat} {h : Heap} (hlt : ∀ b ∈ bs, b < h.length) (hinb : ∀ b ∈ bs, ∀ c ∈ refsL (h.getD b []), c ∈ bs) (hsc : ScopedH h) :
    (renH (fun b => idxOf b bs) (getAll h bs)).length = bs.length ∧
    (∀ i, i < bs.length → h[rhoOf bs h.length i]? = ((renH (fun b => idxOf b bs) (getAll h bs))[i]?).map (renL (rhoOf bs h.length))) ∧
    (∀ {v' : AV}, Scoped h v' → (∀ c ∈ refs v', c ∈ bs) → Scoped (renH (fun b => idxOf b bs) (getAll h bs)) (ren (fun b => idxOf b bs) v')) ∧
    ScopedH (renH (fun b => idxOf b bs) (getAll h bs)) := by
  have hσ : ∀ b ∈ bs, rhoOf bs h.length (idxOf b bs) = b := fun b hb => by
    unfold rhoOf
    rw [idxOf_spec hb]
  have hhs : ∀ i, (renH (fun b => idxOf b bs) (getAll h bs))[i]? = (bs[i]?).map fun b => renL (fun b => idxOf b bs) (h.getD b []) := fun i => by
    rw [renH_eq, List.getElem?_map, getAll_get, Option.map_map]
    rfl
  have hhlen : (renH (fun b => idxOf b bs) (getAll h bs)).length = bs.length := by rw [renH_eq, List.length_map, getAll_len]
  generalize hhsd : renH (fun b => idxOf b bs) (getAll h bs) = hs at *
  have hblk : ∀ i, i < bs.length → h[rhoOf bs h.length i]? = (hs[i]?).map (renL (rhoOf bs h.length)) := by
    intro i hi'
    have hb := List.getElem_mem hi'
    rw [rhoOf_lt hi', hhs, List.getElem?_eq_getElem hi']
    simp only [Option.map_some]
    rw [renL_renL _ fun c hc => hσ c (hinb _ hb c hc)]
    have := hlt _ hb
    rw [List.getD_eq_getElem?_getD, List.getElem?_eq_getElem this]
    rfl
  have hren : ∀ {v' : AV}, Scoped h v' → (∀ c ∈ refs v', c ∈ bs) → Scoped hs (ren (fun b => idxOf b bs) v') := by
    have place : ∀ {p : Place} {L : Nat}, segLenAt h p.b p.s = some L → p.b.b ∈ bs → segLenAt hs (renK (fun b => idxOf b bs) p.b) p.s = some L := by
      intro p L hl hm
      have hi := idxOf_spec hm
      have hi' : idxOf p.b.b bs < bs.length := (List.getElem?_eq_some_iff.1 hi).1
      have hk : renK (rhoOf bs h.length) (renK (fun b => idxOf b bs) p.b) = p.b := by
        unfold renK
        simp only
        rw [hσ _ hm]
      rw [← (seg_of_blk (blk_ren (κ := renK (fun b => idxOf b bs) p.b) (hblk (idxOf p.b.b bs) hi')) p.s).1, hk]
      exact hl
    intro v' hv'
    induction hv' with
    | undef => exact fun _ => by rw [ren_undef]; exact .undef
    | bool b => exact fun _ => by simp only [ren]; exact .bool b
    | int k n => exact fun _ => by simp only [ren]; exact .int k n
    | str s => exact fun _ => by simp only [ren]; exact .str s
    | nils => exact fun _ => by simp only [ren]; exact .nils
    | ptr p L g1 g2 => exact fun hc => by simp only [ren]; exact .ptr _ L (place g1 (hc _ (by simp [refs]))) g2
    | rptr p c L g1 g2 => exact fun hc => by simp only [ren]; exact .rptr _ c L (place g1 (hc _ (by simp [refs]))) g2
    | slice p len cap es ex L g1 g2 => exact fun hc => by simp only [ren]; exact .slice _ len cap es ex L (place g1 (hc _ (by simp [refs]))) g2
    | func f caps _ ih =>
      intro hc
      simp only [ren, renL_eq]
      refine .func f _ fun i => ?_
      rw [getD_map_ren]
      refine ih i fun c hcm => hc c ?_
      simp only [refs]
      rw [List.getD_eq_getElem?_getD] at hcm
      cases hq : caps[i]? with
      | none => rw [hq] at hcm; simp [refs] at hcm
      | some u => rw [hq] at hcm; exact refs_mem caps u (List.mem_of_getElem? hq) c hcm
    | agg ss _ ih =>
      intro hc
      simp only [ren]
      refine .agg _ fun i => ?_
      rw [flat_ren, getD_map_ren]
      refine ih i fun c hcm => hc c ?_
      simp only [refs]
      rw [List.getD_eq_getElem?_getD] at hcm
      cases hq : (flat ss)[i]? with
      | none => rw [hq] at hcm; simp [refs] at hcm
      | some u =>
        rw [hq] at hcm
        obtain ⟨seg, h1, h2⟩ := List.mem_flatMap.1 (List.mem_of_getElem? hq)
        exact refs_mem ss seg h1 c (refs_val seg u h2 c hcm)
    | tuple vs _ ih =>
      intro hc
      simp only [ren, renL_eq]
      refine .tuple _ fun i => ?_
      rw [getD_map_ren]
      refine ih i fun c hcm => hc c ?_
      simp only [refs]
      rw [List.getD_eq_getElem?_getD] at hcm
      cases hq : vs[i]? with
      | none => rw [hq] at hcm; simp [refs] at hcm
      | some u => rw [hq] at hcm; exact refs_mem vs u (List.mem_of_getElem? hq) c hcm
  refine ⟨hhlen, hblk, hren, fun b ss hb i v' hv' => ?_⟩
  have hbl : b.b < bs.length := by have := has_lt ⟨_, hb⟩; omega
  have hm := List.getElem_mem hbl
  have hbk := blk_ren (κ := b) (hblk b.b hbl)
  rw [hb, Option.map_some] at hbk
  have hmo : Scoped h (ren (rhoOf bs h.length) v') := hsc _ _ hbk i _ (by rw [flat_ren, List.getElem?_map, hv']; rfl)
  have hall : ∀ c ∈ refs v', ∃ c0 ∈ bs, c = idxOf c0 bs := by
    intro c hc
    rcases blk_cases hb with ⟨hr, hraw, _⟩ | ⟨r, k, rows, xs, _, _, _, rfl⟩
    · rw [hhs, List.getElem?_eq_getElem hbl] at hraw
      cases hraw
      rw [flat_ren, List.getElem?_map] at hv'
      cases hq2 : (flat (h.getD bs[b.b] []))[i]? with
      | none => rw [hq2] at hv'; cases hv'
      | some u =>
        rw [hq2] at hv'
        cases hv'
        rw [refs_ren] at hc
        obtain ⟨c0, h1, rfl⟩ := List.mem_map.1 hc
        obtain ⟨seg, g1, g2⟩ := List.mem_flatMap.1 (List.mem_of_getElem? hq2)
        exact ⟨c0, hinb _ hm c0 (refs_mem _ seg g1 c0 (refs_val seg u g2 c0 h1)), rfl⟩
    · have hv2 := List.mem_of_getElem? hv'
      simp only [flat, List.flatMap_cons, List.flatMap_nil, List.append_nil, segVals, segValsOf, List.mem_map] at hv2
      obtain ⟨x, _, rfl⟩ := hv2
      simp [refs] at hc
  have := hren hmo fun c hc => by
    rw [refs_ren] at hc
    obtain ⟨c1, h1, rfl⟩ := List.mem_map.1 hc
    obtain ⟨c0, h2, rfl⟩ := hall c1 h1
    simpa only [hσ _ h2] using h2
  rwa [ren_ren v' fun c hc => by obtain ⟨c0, h2, rfl⟩ := hall c hc; simp only [hσ _ h2]] at this

/-- A call that is gone through in a heap of its own. -/
theorem canonCall_sound {f : FuncId} {quiet : Bool} {S : Sum α} (hS : ∀ (ro : Nat) (args : List AV) (h : Heap) (K : AV → Heap → Option α) (r : α), S ro args h K = some r → ∃ v h', K v h' = some r ∧ CallSem P ro f args h v h') :
    ∀ (ro : Nat) (args : List AV) (h : Heap) (K : AV → Heap → Option α) (r : α), canonCall quiet S ro args h K = some r → ∃ v h', K v h' = some r ∧ CallSem P ro f args h v h' := by
  intro ro args h K r he
  unfold canonCall at he
  simp only at he
  obtain ⟨hb, he⟩ := br_fail he
  rw [forceVs_eq, forceH_eq] at he
  simp only [Bool.and_eq_true] at hb
  generalize hlow : belows ro (closeRefs h (h.length + 1) 0 (addNew [] (refsL args))) = low at *
  generalize hbs : low ++ aboves ro (closeRefs h (h.length + 1) 0 (addNew [] (refsL args))) = bs at *
  obtain ⟨hd, hlt, hin, hinb⟩ := hb
  have hlt : ∀ b ∈ bs, b < h.length := fun b hb => by simpa using allB_spec hlt b hb
  have hin := allIn_spec hin
  have hinb : ∀ b ∈ bs, ∀ c ∈ refsL (h.getD b []), c ∈ bs := fun b hb => by
    obtain ⟨i, hi, rfl⟩ := List.mem_iff_getElem.1 hb
    exact allIn_spec (allB_spec hinb _ (List.mem_of_getElem? (i := i) (by rw [getAll_get, List.getElem?_eq_getElem hi]; rfl)))
  have hσ : ∀ b ∈ bs, rhoOf bs h.length (idxOf b bs) = b := fun b hb => by
    unfold rhoOf
    rw [idxOf_spec hb]
  obtain ⟨v, hs', hk, hf, hsem⟩ := hS _ _ _ _ _ he
  refine ⟨_, _, hk, hf, fun μ w cs hlen hargs H => ?_⟩
  obtain ⟨hhlen, hblk, hren, hsc⟩ := canon_core hlt hinb H.scope
  generalize hhsd : renH (fun b => idxOf b bs) (getAll h bs) = hs at *
  have C : Canon ro (cond quiet bs.length low.length) (rhoOf bs h.length) h hs := by
    refine ⟨fun i hi => ?_, fun i j hi hj e => ?_, fun i hi => hblk i (by omega), fun j => ?_, fun i h1 h2 => ?_, ?_, hsc⟩
    · rw [rhoOf_lt (by omega)]
      exact hlt _ (List.getElem_mem _)
    · rw [rhoOf_lt (by omega : i < bs.length), rhoOf_lt (by omega : j < bs.length)] at e
      exact distinctB_spec hd i j (by omega) (by omega) e
    · rw [hhlen, rhoOf_ge]
    · have hi : i < bs.length := by omega
      rw [rhoOf_lt hi]
      cases quiet with
      | true => simp only [cond_true] at h1; omega
      | false =>
        simp only [cond_false] at h1
        subst hbs
        rw [List.getElem_append_right h1]
        exact mem_aboves (List.getElem_mem _)
    · cases quiet with
      | true => simp only [cond_true]; omega
      | false => simp only [cond_false]; rw [hhlen, ← hbs]; simp
  have hsm := C.small H
  refine (hsem _ w cs (by rw [renL_eq, List.length_map]; exact hlen) (fun i => ?_) hsm).mono ?_
  · have hv := hargs i
    rw [renL_eq, getD_map_ren]
    have hrefs : ∀ c ∈ refs (args.getD i .undef), c ∈ bs := by
      intro c hc
      rw [List.getD_eq_getElem?_getD] at hc
      cases hq : args[i]? with
      | none => rw [hq] at hc; simp [refs] at hc
      | some u => rw [hq] at hc; exact hin c (refs_mem args u (List.mem_of_getElem? hq) c hc)
    refine VR.unren C.emb (hren hv.inScope hrefs) ?_
    rw [ren_ren _ fun c hc => hσ c (hrefs c hc)]
    exact hv
  · rintro e w' ⟨c, rfl, μs', v1, v2, v3⟩
    have hkl := v3.len
    have hlift : ∀ b, (liftHeap bs h hs')[b]? = if b < h.length then (setAll bs (renH (rhoOf bs h.length) (hs'.take bs.length)) h)[b]? else (renH (rhoOf bs h.length) (hs'.drop bs.length))[b - h.length]? := by
      intro b
      unfold liftHeap
      split
      · rename_i hb
        rw [List.getElem?_append_left (by rw [setAll_len]; exact hb)]
      · rename_i hb
        rw [List.getElem?_append_right (by rw [setAll_len]; omega), setAll_len]
    have q1 : ∀ i, i < hs.length → (liftHeap bs h hs')[rhoOf bs h.length i]? = (hs'[i]?).map (renL (rhoOf bs h.length)) := by
      intro i hi
      have hi' : i < bs.length := by omega
      rw [hlift, rhoOf_lt hi', if_pos (hlt _ (List.getElem_mem hi')), setAll_get bs _ h i hi' hd hlt (by rw [renH_eq, List.length_map, List.length_take]; omega), renH_eq, List.getElem?_map, List.getElem?_take, if_pos hi']
    have q2 : ∀ b, b < h.length → (∀ i, i < hs.length → rhoOf bs h.length i ≠ b) → (liftHeap bs h hs')[b]? = h[b]? := by
      intro b hb hn
      rw [hlift, if_pos hb, setAll_other bs _ h]
      intro hm
      obtain ⟨i, hi, rfl⟩ := List.mem_iff_getElem.1 hm
      exact hn i (by omega) (rhoOf_lt hi)
    have q3 : ∀ j, (liftHeap bs h hs')[h.length + j]? = (hs'[hs.length + j]?).map (renL (rhoOf bs h.length)) := by
      intro j
      rw [hlift, if_neg (by omega), renH_eq, List.getElem?_map, List.getElem?_drop, hhlen, Nat.add_sub_cancel_left]
    have q4 : (liftHeap bs h hs').length = h.length + (hs'.length - hs.length) := by
      unfold liftHeap
      rw [List.length_append, setAll_len, renH_eq, List.length_map, List.length_drop, hhlen]
    obtain ⟨μ'', g1, g2, g3⟩ := C.back H v2 v3 q1 q2 q3 q4
    exact ⟨c, rfl, μ'', v1.ren g1, g2, g3⟩

/-- Blocks to which nothing leads may be forgotten. -/
theorem packK_sound {ro n : Nat} {v : AV} {h : Heap} {K : AV → Heap → Option α} (he : packK ro n v h K = some r) :
    ∃ v' h', K v' h' = some r ∧ ∀ (h0 : Heap) (μ0 μ : LMap) (w0 w : World) (c : Value), h0.length = n → ro ≤ n → VR h μ v c → HR ro h μ w → Ext ro h0 μ0 w0 h μ w →
      ∃ μ', VR h' μ' v' c ∧ HR ro h' μ' w ∧ Ext ro h0 μ0 w0 h' μ' w := by
  have same : ∀ {K : AV → Heap → Option α}, K v h = some r → ∃ v' h', K v' h' = some r ∧ ∀ (h0 : Heap) (μ0 μ : LMap) (w0 w : World) (c : Value), h0.length = n → ro ≤ n → VR h μ v c → HR ro h μ w → Ext ro h0 μ0 w0 h μ w →
      ∃ μ', VR h' μ' v' c ∧ HR ro h' μ' w ∧ Ext ro h0 μ0 w0 h' μ' w := fun hk => ⟨v, h, hk, fun h0 μ0 μ w0 w c _ _ a b d => ⟨μ, a, b, d⟩⟩
  unfold packK at he
  simp only at he
  generalize closeRefs h (h.length + 1) 0 (addNew (List.range n) (refs v)) = bs at he
  rcases br_some he with ⟨_, hk⟩ | ⟨_, he⟩
  · exact same hk
  rcases br_some he with ⟨hb, hk⟩ | ⟨_, hk⟩
  rotate_left
  · exact same hk
  simp only [Bool.and_eq_true, prefixB] at hb
  obtain ⟨⟨hpl, hpre⟩, hd, hlt, hin, hinb, hro⟩ := hb
  refine ⟨_, _, hk, fun h0 μ0 μ w0 w c hn hron hv H X => ?_⟩
  have hlt : ∀ b ∈ bs, b < h.length := fun b hb => by simpa using allB_spec hlt b hb
  have hin := allIn_spec hin
  have hinb : ∀ b ∈ bs, ∀ c ∈ refsL (h.getD b []), c ∈ bs := fun b hb => by
    obtain ⟨i, hi, rfl⟩ := List.mem_iff_getElem.1 hb
    exact allIn_spec (allB_spec hinb _ (List.mem_of_getElem? (i := i) (by rw [getAll_get, List.getElem?_eq_getElem hi]; rfl)))
  rw [Nat.ble_eq] at hpl
  have hfix : ∀ b, b < n → bs[b]? = some b := fun b hb => by
    have h1 := Nat.eq_of_beq_eq_true (allB_spec hpre b (List.mem_range.2 hb))
    rw [List.getD_eq_getElem?_getD] at h1
    have h2 : b < bs.length := by omega
    rw [List.getElem?_eq_getElem h2] at h1 ⊢
    exact congrArg some h1
  have hσ : ∀ b ∈ bs, rhoOf bs h.length (idxOf b bs) = b := fun b hb => by
    unfold rhoOf
    rw [idxOf_spec hb]
  have hρn : ∀ b, b < n → rhoOf bs h.length b = b := fun b hb => by unfold rhoOf; rw [hfix b hb]
  have hidx : ∀ b, b < n → idxOf b bs = b := fun b hb => by
    have h1 := List.mem_of_getElem? (hfix b hb)
    have h2 := idxOf_spec h1
    have h3 := (List.getElem?_eq_some_iff.1 h2)
    have h4 := (List.getElem?_eq_some_iff.1 (hfix b hb))
    obtain ⟨l1, e1⟩ := h3
    obtain ⟨l2, e2⟩ := h4
    exact distinctB_spec hd _ _ l1 l2 (e1.trans e2.symm)
  obtain ⟨hlen, hblk, hren, hsc⟩ := canon_core hlt hinb H.scope
  have hinj : ∀ i j, i < bs.length → j < bs.length → rhoOf bs h.length i = rhoOf bs h.length j → i = j := fun i j hi hj e => by
    rw [rhoOf_lt hi, rhoOf_lt hj] at e
    exact distinctB_spec hd i j hi hj e
  have hlow : ∀ i, i < bs.length → rhoOf bs h.length i < n → rhoOf bs h.length i = i := fun i hi hl => by
    refine hinj _ _ (by omega) hi ?_
    rw [hρn _ hl]
  have C : Canon ro ro (rhoOf bs h.length) h (renH (fun b => idxOf b bs) (getAll h bs)) := by
    refine ⟨fun i hi => ?_, fun i j hi hj e => hinj i j (by omega) (by omega) e, fun i hi => hblk i (by omega), fun j => by rw [hlen, rhoOf_ge], fun i h1 h2 => ?_, by omega, hsc⟩
    · rw [rhoOf_lt (by omega)]
      exact hlt _ (List.getElem_mem _)
    · by_cases hl : rhoOf bs h.length i < n
      · have := hlow i (by omega) hl; omega
      · omega
  have hρK : ∀ κ : Key, κ.b < n → renK (rhoOf bs h.length) κ = κ := fun κ hb => by unfold renK; rw [hρn _ hb]
  refine ⟨fun b => μ (renK (rhoOf bs h.length) b), VR.unren C.emb (hren hv.inScope hin) (by rw [ren_ren _ fun c hc => hσ c (hin c hc)]; exact hv), C.small H, ?_⟩
  refine ⟨⟨fun b s L hl => ?_⟩, X.os, X.tape, X.output, X.size, by rw [hlen]; omega, X.frame, fun b h1 h2 => ?_, fun b k base room h1 h2 => ?_, X.froz⟩
  · have hb : b.b < n := by have := segLenAt_lt hl; omega
    obtain ⟨L', e1, e2, e3⟩ := X.le.lens b s L hl
    have hbk := C.blkK (κ := b) (by omega)
    rw [hρK b hb] at hbk
    obtain ⟨g1, g2⟩ := seg_of_blk hbk s
    have g2 := g2 (segLenAt_has (g1.symm.trans e1))
    refine ⟨L', g1.symm.trans e1, e2, fun e => ?_⟩
    obtain ⟨a1, a2⟩ := e3 e
    refine ⟨g2.symm.trans a1, fun hne => ?_⟩
    try simp only
    rw [hρK b hb]
    exact a2 hne
  · have hb : b < n := by omega
    obtain ⟨e1, e2⟩ := X.rob b h1 h2
    refine ⟨?_, fun r => by rw [hρK ⟨b, r⟩ hb]; exact e2 r⟩
    rw [← e1]
    have hbl : b < h.length := by have := X.len; omega
    rw [renH_eq, List.getElem?_map, getAll_get, hfix b hb]
    simp only [Option.map_some]
    rw [List.getD_eq_getElem?_getD, List.getElem?_eq_getElem hbl]
    simp only [Option.getD_some]
    congr 1
    have hz := renL_renL (σ := fun b => idxOf b bs) (ρ := fun b => b) h[b] fun c hc => by
      have hm : h[b] ∈ h.take ro := List.mem_of_getElem? (i := b) (by rw [List.getElem?_take, if_pos h1, List.getElem?_eq_getElem hbl])
      have := allB_spec (allB_spec hro _ hm) c hc
      exact hidx c (by simpa using this)
    rw [renL_id] at hz
    exact hz
  · have hbl : b.b < bs.length := by have := has_lt h1; omega
    rcases X.moved _ k base room (C.hasK h1) h2 with ⟨b2, base2, room2, g1, g2, g3⟩ | g
    · left
      refine ⟨b2, base2, room2, g1, g2, ?_⟩
      rcases g3 with g3 | g3
      · exact .inl g3
      · right
        have hl : rhoOf bs h.length b.b < n := by
          have := has_lt g1
          rw [g3] at this
          simpa [renK, ← hn] using this
        rw [g3]
        unfold renK
        rw [hlow _ hbl hl]
    · exact .inr g
end
end Go.AM
