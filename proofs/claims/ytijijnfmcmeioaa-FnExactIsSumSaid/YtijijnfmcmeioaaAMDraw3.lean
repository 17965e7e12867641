/- A part of a proof about the given program: an abstract machine, what the given functions come to, and plain laws. -/
import Derived.Test.YtijijnfmcmeioaaAMDraw2
namespace Go.AM
section
variable {α : Type} {r : α} {P : Program} {ro : Nat} {ops : Array Oper} {S : Nat → St} {anc : Nat → Nat → Prop} {a0 a : Act} {w0 w : World} {μ0 μ : LMap} {l : Array Bool} {m j : Nat} {o : Oper}

theorem eval_of_reads {h : Heap} {t : List AV} {a : Act} {all : List Oper} {o : Oper} (hr : ∀ s, s ∈ readsOf all o → VR h μ (t.getD s .undef) (a.tmps.getD s Go.undef)) :
    ∀ x, x ∈ o.op.operands → VR h μ (evalO t x) (a.eval x) := by
  intro x hx
  cases x with
  | tmp s => exact hr s (reads_op hx)
  | const c => exact evalO_const h μ t c
  | global g => exact .undef _
  | func f => exact .func f [] #[] rfl fun i => by simpa using VR.undef _

theorem Inv.same (T : Text P ro ops S) (hO : Ordered ops anc) (I : Inv ops S ro a0 w0 μ0 l a w m μ) (hj : ops[j]? = some o) (hl : listedB l j = false) (hd : ∀ e, e ∈ o.after → Region.binds .any e = true → listedB l e.on = true)
    (hw : isW o.op = false) (hp : m ≤ j → isP o.op = true) {w' : World} {μ' : LMap} {v : AV} {c : Value} (hst : (S (j + 1)).t = putO (S j).t o.dst v) (hv : VR (S m).h μ' v c) (H : HR ro (S m).h μ' w')
    (X : Ext ro (S m).h μ w (S m).h μ' w') (habs : ∀ i, i < m → i ≠ j → listedB l i = false → ∀ b, (S i).h.length ≤ b → b < (S (i + 1)).h.length → μ' b = .absent) :
    Inv ops S ro a0 w0 μ0 (l.setIfInBounds j true) (a.put o.dst c) w' m μ' := by
  have hjlt : j < ops.size := (Array.getElem?_eq_some_iff.1 hj).1
  have hset := listedB_set (l := l) (j := j) (by rw [I.size]; exact hjlt)
  refine ⟨by simp [I.size], I.closed' hj hd, I.mle, fun i o' hi ho hwi => ?_, fun o' ho => ?_, fun i o' hi ho hli => ?_, ?_, I.wrote T hO hj hl X.le hv hst, by rw [put_defers]; exact I.defers, H, I.ext.trans X, fun i hi hli b h1 h2 => ?_⟩
  · rw [hset]
    split
    · rfl
    · exact I.done i o' hi ho hwi
  · obtain ⟨h1, h2⟩ := I.next o' ho
    refine ⟨h1, ?_⟩
    rw [hset, if_neg]
    · exact h2
    · rintro rfl
      rw [hj] at ho
      cases ho
      rw [hw] at h1
      cases h1
  · rw [hset] at hli
    by_cases hij : i = j
    · subst hij
      rw [hj] at ho
      cases ho
      exact hp hi
    · rw [if_neg hij] at hli
      exact I.late i o' hi ho hli
  · rw [I.len]
    cases o.dst <;> simp [Act.put]
  · rw [hset] at hli
    by_cases hij : i = j
    · rw [if_pos hij] at hli; cases hli
    · rw [if_neg hij] at hli
      exact habs i hi hij hli b h1 h2

theorem Inv.turn (T : Text P ro ops S) (hO : Ordered ops anc) (I : Inv ops S ro a0 w0 μ0 l a w j μ) (hj : ops[j]? = some o) (hl : listedB l j = false) (hd : ∀ e, e ∈ o.after → Region.binds .any e = true → listedB l e.on = true)
    (hw : isW o.op = true) {w' : World} {μ' : LMap} {v : AV} {c : Value} (hst : (S (j + 1)).t = putO (S j).t o.dst v) (hv : VR (S (j + 1)).h μ' v c) (H : HR ro (S (j + 1)).h μ' w')
    (X : Ext ro (S j).h μ w (S (j + 1)).h μ' w') : ∃ m' μ'', Inv ops S ro a0 w0 μ0 (l.setIfInBounds j true) (a.put o.dst c) w' m' μ'' := by
  have hjlt : j < ops.size := (Array.getElem?_eq_some_iff.1 hj).1
  have hset := listedB_set (l := l) (j := j) (by rw [I.size]; exact hjlt)
  obtain ⟨m', g1, g2, g3, g4⟩ := next_W ops (j + 1) (by omega)
  have hpre := T.pre g1 g2 g3
  obtain ⟨H2, X2⟩ := H.extend hpre (T.reach m' g2).inScope.1
  have hX := X.trans X2
  refine ⟨m', _, ⟨by simp [I.size], I.closed' hj hd, g2, fun i o' hi ho hwi => ?_, fun o' ho => ⟨g4 o' ho, ?_⟩, fun i o' hi ho hli => ?_, ?_, I.wrote T hO hj hl hX.le (hv.mono X2.le) hst, by rw [put_defers]; exact I.defers, H2, I.ext.trans hX, fun i hi hli b h1 h2 => ?_⟩⟩
  · rw [hset]
    split
    · rfl
    · by_cases hij : i < j
      · exact I.done i o' hij ho hwi
      · have := g3 i o' (by omega) hi ho
        rw [hwi] at this
        cases this
  · rw [hset, if_neg (by omega)]
    cases hq : listedB l m' with
    | false => rfl
    | true =>
      have h1 := I.late m' o' (by omega) ho hq
      have h2 := g4 o' ho
      rw [isP_notW h1] at h2
      cases h2
  · rw [hset, if_neg (by omega)] at hli
    exact I.late i o' (by omega) ho hli
  · rw [I.len]
    cases o.dst <;> simp [Act.put]
  · rw [hset] at hli
    by_cases hij : i = j
    · rw [if_pos hij] at hli; cases hli
    · rw [if_neg hij] at hli
      by_cases hlt : i < j
      · have ho : ops[i]? = some ops[i] := by simp [show i < ops.size by omega]
        exfalso
        cases hp : isP ops[i].op with
        | false =>
          have : anc j i := hO.pair i j _ _ hlt ho hj (by simp only [pairB, Bool.or_eq_true, Bool.and_eq_true]; exact .inl (.inr ⟨hw, by rw [hp]; rfl⟩))
          have := closed_anc hO I.closed j o hj hd i this
          rw [hli] at this
          cases this
        | true =>
          have hs := T.steps i _ ho
          have : (S (i + 1)).h = (S i).h := by
            cases hs with
            | skip _ e => rw [e]
            | pure v _ _ e _ => rw [e]
            | run v h' _ hq _ _ => rw [hp] at hq; cases hq
          rw [this] at h2
          omega
      · rw [cutMap_ge]
        exact Nat.le_trans (T.len (show j + 1 ≤ i by omega) (by omega)) h1

theorem Inv.step (T : Text P ro ops S) (hO : Ordered ops anc) (I : Inv ops S ro a0 w0 μ0 l a w m μ) (hj : ops[j]? = some o) (hl : listedB l j = false) (hd : ∀ e, e ∈ o.after → Region.binds .any e = true → listedB l e.on = true)
    {Q : Exit → Act → World → Prop} {K : Act → World → Prop} (hK : ∀ a' w' m' μ', Inv ops S ro a0 w0 μ0 (l.setIfInBounds j true) a' w' m' μ' → K a' w') : wpOp P ops Q j K a w := by
  have hjlt : j < ops.size := (Array.getElem?_eq_some_iff.1 hj).1
  have hread := fun s hs => I.read T hO hj hl hd (s := s) hs
  have hops := eval_of_reads hread
  have hanc := closed_anc hO I.closed j o hj hd
  have hwant : ∀ b, GuardVal ops.toList (S j).t o b → Region.wanted o (yielded ops a.tmps) = b := fun b hg => hg.wanted (h := (S m).h) (μ := μ) fun _ _ d h1 h2 => hread d (reads_guard h1 h2)
  -- a store is the next one
  have hWm : isW o.op = true → m = j := by
    intro hw
    rcases Nat.lt_trichotomy m j with h | h | h
    · exfalso
      have ho : ops[m]? = some ops[m] := by simp [show m < ops.size by omega]
      obtain ⟨h1, h2⟩ := I.next _ ho
      have : anc j m := hO.pair m j _ _ h ho hj (by
        simp only [pairB, Bool.or_eq_true, Bool.and_eq_true]
        refine .inr ⟨h1, ?_⟩
        cases hp : isP o.op with
        | false => rfl
        | true => rw [isP_notW hp] at hw; cases hw)
      have := hanc m this
      rw [h2] at this
      cases this
    · exact h
    · exfalso
      have := I.done j o h hj hw
      rw [hl] at this
      cases this
  -- an operation on memory stands before the next store
  have hMm : isP o.op = false → isW o.op = false → j < m := by
    intro hp hw
    rcases Nat.lt_or_ge j m with h | h
    · exact h
    · exfalso
      have ho : ops[m]? = some ops[m] := by simp [show m < ops.size by omega]
      obtain ⟨h1, h2⟩ := I.next _ ho
      have hne : m ≠ j := by
        rintro rfl
        rw [hj] at ho
        cases ho
        rw [hw] at h1
        cases h1
      have : anc j m := hO.pair m j _ _ (by omega) ho hj (by
        simp only [pairB, Bool.or_eq_true, Bool.and_eq_true]
        exact .inr ⟨h1, by rw [hp]; rfl⟩)
      have := hanc m this
      rw [h2] at this
      cases this
  have hpreM : isP o.op = false → isW o.op = false → ∀ k, j ≤ k → k ≤ m → (S k).h <+: (S m).h := by
    intro hp hw k hk hkm
    refine T.pre hkm I.mle fun i o' h1 h2 ho => ?_
    cases hwi : isW o'.op with
    | false => rfl
    | true =>
      exfalso
      have hij : j < i := by
        rcases Nat.lt_or_eq_of_le (Nat.le_trans hk h1) with h | rfl
        · exact h
        · rw [hj] at ho; cases ho; rw [hw] at hwi; cases hwi
      have hli := I.done i o' h2 ho hwi
      have : anc i j := hO.pair j i _ _ hij hj ho (by
        simp only [pairB, Bool.or_eq_true, Bool.and_eq_true]
        exact .inl (.inr ⟨hwi, by rw [hp]; rfl⟩))
      have := closed_anc hO I.closed i _ ho (I.closed i _ ho hli) j this
      rw [hl] at this
      cases this
  unfold wpOp
  simp only [hj]
  have hskip : ∀ {v : AV} {c : Value} {h' : Heap}, S (j + 1) = ⟨putO (S j).t o.dst v, h'⟩ → h' = (S j).h → (∀ h μ, VR h μ v c) → K (a.put o.dst c) w := by
    intro v c h' e eh hv
    subst eh
    cases hw : isW o.op with
    | true =>
      have := hWm hw
      subst this
      have eh : (S (m + 1)).h = (S m).h := by rw [e]
      obtain ⟨m', μ', I'⟩ := I.turn T hO hj hl hd hw (w' := w) (μ' := μ) (v := v) (c := c) (by rw [e]) (hv _ _) (by rw [eh]; exact I.heap) (by rw [eh]; exact .refl _ _ _ _)
      exact hK _ _ _ _ I'
    | false =>
      refine hK _ _ _ _ (I.same T hO hj hl hd hw (fun hmj => ?_) (v := v) (c := c) (by rw [e]) (hv _ _) I.heap (.refl _ _ _ _) fun i hi _ hli => I.abs i hi hli)
      cases hp : isP o.op with
      | true => rfl
      | false => have := hMm hp hw; omega
  have hs := T.steps j o hj
  cases hs with
  | skip hg e =>
    rw [hwant _ hg, if_neg (by simp)]
    exact hskip e rfl fun h μ => VR.void h μ
  | pure v hg hp e hop =>
    rw [hwant _ hg, if_pos rfl]
    refine .inl (hop (S m).h.length (S m).h o a w μ _ Q rfl hops I.heap.quiet fun μ' w' c v1 v2 v3 => ?_)
    exact hK _ _ _ _ (I.same T hO hj hl hd (isP_notW hp) (fun _ => hp) (by rw [e]) v1 (I.heap.unquiet v2 v3) v3.unquiet fun i hi _ hli b h1 h2 => by
      have hb : b < (S m).h.length := Nat.lt_of_lt_of_le h2 (T.len (by omega) I.mle)
      rw [(v3.rob b hb hb).2]
      exact I.abs i hi hli b h1 h2)
  | run v h' hg hp e hop =>
    rw [hwant _ hg, if_pos rfl]
    have eh : (S (j + 1)).h = h' := by rw [e]
    cases hw : isW o.op with
    | true =>
      have := hWm hw
      subst this
      simp only [hw, Bool.not_true, Bool.and_false, cond_false] at hop
      refine .inl (hop o a w μ _ Q rfl hops I.heap fun μ' w' c v1 v2 v3 => ?_)
      obtain ⟨m', μ'', I'⟩ := I.turn T hO hj hl hd hw (w' := w') (μ' := μ') (v := v) (c := c) (by rw [e]) (by rw [eh]; exact v1) (by rw [eh]; exact v2) (by rw [eh]; exact v3)
      exact hK _ _ _ _ I'
    | false =>
      simp only [hw, Bool.not_false, Bool.and_true, cond_true] at hop
      have hjm := hMm hp hw
      have hsc := (T.reach j (by omega)).inScope
      have hp0 := hpreM hp hw j (Nat.le_refl _) (by omega)
      have hp1 := hpreM hp hw (j + 1) (by omega) hjm
      rw [eh] at hp1
      have hops' : ∀ x, x ∈ o.op.operands → VR (S j).h μ (evalO (S j).t x) (a.eval x) := eval_of_reads (all := ops.toList) fun s hs => (hread s hs).restrict hp0 (hsc.2.1 s)
      refine .inl (hop o a w μ _ Q rfl hops' ((I.heap.restrict hp0 hsc.1 hsc.2.2).quiet) fun μ' w' c v1 v2 v3 => ?_)
      obtain ⟨q1, q2, q3⟩ := quiet_step v3.grows hp1 I.heap hsc.2.2 (fun b h1 h2 => I.abs j hjm hl b h1 (by rw [eh]; exact h2)) v2 v3
      refine hK _ _ _ _ (I.same T hO hj hl hd hw (fun hmj => by omega) (by rw [e]) (v1.mono q3) q1 q2 fun i hi hij hli b h1 h2 => ?_)
      by_cases hlt : i < j
      · have hb : b < (S j).h.length := Nat.lt_of_lt_of_le h2 (T.len (by omega) (by omega))
        rw [cutMap_lt (Nat.lt_of_lt_of_le hb v3.len), (v3.rob b hb hb).2]
        exact I.abs i hi hli b h1 h2
      · have hb : h'.length ≤ b := by rw [← eh]; exact Nat.le_trans (T.len (show j + 1 ≤ i by omega) (by have := I.mle; omega)) h1
        rw [cutMap_ge hb]
        exact I.abs i hi hli b h1 h2

theorem countP_lt {p p' : Nat → Bool} {j : Nat} : ∀ {l : List Nat}, (∀ x, p' x = true → p x = true) → j ∈ l → p j = true → p' j = false → l.countP p' < l.countP p := by
  intro l hpp hj h1 h2
  induction l with
  | nil => simp at hj
  | cons x xs ih =>
    have hle : xs.countP p' ≤ xs.countP p := List.countP_mono_left fun x _ => hpp x
    rw [List.countP_cons, List.countP_cons]
    rcases List.mem_cons.1 hj with rfl | hj
    · rw [h1, h2]; simp; omega
    · have := ih hj
      cases hx : p' x with
      | true => rw [hpp x hx]; simp; omega
      | false => cases p x <;> simp <;> omega

theorem region_drawn {call : FuncId → Sum α} (hcall : CallsOk P call) (hm : P.follows .mixedOrders = true) {ops : Array Oper} (hok : drawOk ops.toList = true) {st : St} {K : St → Option α} {id : Nat} (he : opsK P true ro call ops.toList ops.toList st K = some r) :
    ∃ st', K st' = some r ∧ RegSem ro st st' ((Code.region id ops true).wp P) := by
  obtain ⟨S, e1, e2, e3⟩ := opsK_trace hcall _ _ _ he
  refine ⟨_, e2, fun a0 w0 μ0 Q ht H hq => wp_region_any hm ?_⟩
  have hO := drawOk_spec hok
  have H' : HR ro st.h μ0 { w0 with drawn := w0.drawn + 1 } := ⟨H.nil_, H.at_, H.inj, H.scope, H.rol⟩
  have hsteps : ∀ i o, ops[i]? = some o → StepOk P true ro ops.toList o (S i) (S (i + 1)) := fun i o ho => e3 i o (by simpa using ho)
  have T : Text P ro ops S := ⟨hsteps, fun i => by
    induction i with
    | zero => exact fun _ => ⟨a0, _, μ0, by rw [e1]; exact ht, by rw [e1]; exact H'⟩
    | succ i ih =>
      intro hi
      have ho : ops[i]? = some ops[i] := by simp [show i < ops.size by omega]
      exact ((ih (by omega)).step (hsteps i _ ho)).1⟩
  have hlast : S ops.toList.length = S ops.size := by simp
  have key : ∀ (fuel : Nat) (l : Array Bool) (a : Act) (w : World) (m : Nat) (μ : LMap), (List.range ops.size).countP (fun i => !listedB l i) ≤ fuel → Inv ops S ro a0 { w0 with drawn := w0.drawn + 1 } μ0 l a w m μ → wpAny P .any ops Q fuel l a w := by
    intro fuel
    -- when nothing is left to run
    have hend : ∀ (l : Array Bool) (a : Act) (w : World) (m : Nat) (μ : LMap), Inv ops S ro a0 { w0 with drawn := w0.drawn + 1 } μ0 l a w m μ → (∀ i, i < ops.size → listedB l i = true) → Q .normal a w := by
      intro l a w m μ I hall
      have hmn : m = ops.size := by
        rcases Nat.lt_or_eq_of_le I.mle with h | h
        · have ho : ops[m]? = some ops[m] := by simp [h]
          have := (I.next _ ho).2
          rw [hall m h] at this
          cases this
        · exact h
      subst hmn
      refine hq a w μ ⟨?_, fun s => ?_⟩ I.defers (by rw [hlast]; exact I.heap) ?_
      · rw [hlast, ← I.len]
        have : ∀ k, k ≤ ops.size → (S k).t.length = (S 0).t.length := by
          intro k
          induction k with
          | zero => exact fun _ => rfl
          | succ k ih =>
            intro hk
            have ho : ops[k]? = some ops[k] := by simp [show k < ops.size by omega]
            obtain ⟨v, hv⟩ := (hsteps _ _ ho).slots
            rw [hv, ← ih (by omega)]
            cases ops[k].dst <;> simp [putO]
        exact this _ (Nat.le_refl _)
      · rw [hlast]
        have := I.slots s
        rw [slotAt_read T (j := ops.size) (Nat.le_refl _) (fun i hi _ => hall i hi) (fun i h1 h2 => by omega)] at this
        exact this
      · rw [hlast]
        have := I.ext
        rw [e1] at this
        exact ⟨this.le, this.os, this.tape, this.output, this.size, this.len, this.frame, this.rob, this.moved, this.froz⟩
    have hready : ∀ (l : Array Bool) (a : Act) (w : World) (m : Nat) (μ : LMap), Inv ops S ro a0 { w0 with drawn := w0.drawn + 1 } μ0 l a w m μ → Region.ready .any ops l = [] → ∀ i, i < ops.size → listedB l i = true := by
      intro l a w m μ I hr i
      induction i using Nat.strongRecOn with
      | _ i ih =>
        intro hi
        cases hq : listedB l i with
        | true => rfl
        | false =>
          exfalso
          have ho : ops[i]? = some ops[i] := by simp [hi]
          have : i ∈ Region.ready .any ops l := mem_ready.2 ⟨by
            unfold listedB at hq
            have hsz : i < l.size := by rw [I.size]; exact hi
            simpa [Array.getD, hsz] using hq, ops[i], ho, fun e he' hb => ih e.on (hO.back i _ e ho he' hb) (by have := hO.back i _ e ho he' hb; omega)⟩
          rw [hr] at this
          simp at this
    induction fuel with
    | zero =>
      intro l a w m μ hc I
      have hall : ∀ i, i < ops.size → listedB l i = true := fun i hi => by
        have h0 : (List.range ops.size).countP (fun i => !listedB l i) = 0 := by omega
        rw [List.countP_eq_zero] at h0
        have := h0 i (by simpa using hi)
        simpa using this
      refine ⟨?_, hend l a w m μ I hall⟩
      apply List.eq_nil_iff_forall_not_mem.2
      intro i hi
      obtain ⟨h1, o, ho, _⟩ := mem_ready.1 hi
      have hlt : i < ops.size := (Array.getElem?_eq_some_iff.1 ho).1
      have h2 := hall i hlt
      unfold listedB at h2
      have hsz : i < l.size := by rw [I.size]; exact hlt
      simp [Array.getD, hsz] at h1 h2
      rw [h1] at h2
      cases h2
    | succ fuel ih =>
      intro l a w m μ hc I
      refine ⟨fun hr => hend l a w m μ I (hready l a w m μ I hr), fun i hi => ?_⟩
      obtain ⟨h1, o, ho, hd⟩ := mem_ready.1 hi
      have hlt : i < ops.size := (Array.getElem?_eq_some_iff.1 ho).1
      have hsz : i < l.size := by rw [I.size]; exact hlt
      have hl : listedB l i = false := by
        unfold listedB
        simpa [Array.getD, hsz] using h1
      refine I.step T hO ho hl hd fun a' w' m' μ' I' => ih _ a' w' m' μ' ?_ I'
      have hset := listedB_set (l := l) (j := i) hsz
      have := countP_lt (p := fun k => !listedB l k) (p' := fun k => !listedB (l.setIfInBounds i true) k) (j := i) (l := List.range ops.size) (fun x hx => by
        simp only [hset] at hx
        by_cases hxi : x = i
        · rw [if_pos hxi] at hx; simp at hx
        · rw [if_neg hxi] at hx; exact hx) (by simpa using hlt) (by simp [hl]) (by simp [hset])
      omega
  obtain ⟨m, g1, g2, g3, g4⟩ := next_W ops 0 (Nat.zero_le _)
  have hpre := T.pre (Nat.zero_le m) g2 fun k o h1 h2 => g3 k o h1 h2
  have hL : ∀ i, listedB (Array.replicate ops.size false) i = false := fun i => by
    unfold listedB
    rw [Array.getD_eq_getD_getElem?, Array.getElem?_replicate]
    split <;> rfl
  obtain ⟨H2, X2⟩ := (show HR ro (S 0).h μ0 _ by rw [e1]; exact H').extend hpre (T.reach m g2).inScope.1
  refine key ops.size _ a0 _ m (cutMap (S 0).h.length μ0 fun _ => .absent) ?_ ⟨by simp, fun i o _ hli => (by rw [hL] at hli; cases hli), g2, fun i o hi ho hw => ?_, fun o ho => ⟨g4 o ho, hL m⟩, fun i o _ _ hli => (by rw [hL] at hli; cases hli), ?_, fun s => ?_, rfl, H2, X2, fun i hi _ b h1 h2 => ?_⟩
  · exact Nat.le_trans (List.countP_le_length) (by simp)
  · have := g3 i o (Nat.zero_le _) hi ho
    rw [hw] at this
    cases this
  · rw [e1]; exact ht.1
  · have hs : slotAt ops S (listedB (Array.replicate ops.size false)) s ops.size = (S 0).t.getD s .undef := by
      have : ∀ k, slotAt ops S (listedB (Array.replicate ops.size false)) s k = (S 0).t.getD s .undef := by
        intro k
        induction k with
        | zero => rfl
        | succ k ih =>
          simp only [slotAt]
          rw [if_neg (fun h => by rw [hL] at h; cases h.1), ih]
      exact this _
    rw [hs]
    refine VR.mono X2.le ?_
    rw [e1]
    exact ht.2 s
  · rw [cutMap_ge]
    exact Nat.le_trans (T.len (Nat.zero_le i) (by omega)) h1
end
end Go.AM
