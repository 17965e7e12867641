/- A part of a proof about the given program: an abstract machine, what the given functions come to, and plain laws. -/
import Derived.Test.YtkboldcnkkolkaaAMCanon
namespace Go.AM
section
variable {α : Type} {r : α} {P : Program} {ro : Nat}

theorem asAddr_run (a : Addr) (w : World) : (asAddr (.pointer (some a))).run P w = .ok a w := by simp [asAddr]

theorem resultsK_sound {t : List AV} {h : Heap} : ∀ (rs : List ResultVar) (K : List AV → Option α), resultsK P rs t h K = some r →
    ∃ vs, K vs = some r ∧ vs.length = rs.length ∧ ∀ (ro : Nat) (μ : LMap) (w : World) (tmps : Array Value), TR h μ t tmps → HR ro h μ w →
      ∃ cs : List Value, (rs.mapM (m := Sem) (fun
        | .tmp t => pure (tmps.getD t Go.undef)
        | .cell a t => do loadVar t (← asAddr (tmps.getD a Go.undef)))).run P w = .ok cs w ∧ cs.length = vs.length ∧ ∀ i, VR h μ (vs.getD i .undef) (cs.getD i Go.undef) := by
  intro rs
  induction rs with
  | nil => exact fun K he => ⟨[], he, rfl, fun ro μ w tmps _ _ => ⟨[], rfl, rfl, fun i => by simpa using VR.undef _⟩⟩
  | cons x rest ih =>
    intro K he
    have key : ∀ (v : AV), (∃ vs, K (v :: vs) = some r ∧ vs.length = rest.length ∧ ∀ (ro : Nat) (μ : LMap) (w : World) (tmps : Array Value), TR h μ t tmps → HR ro h μ w →
        ∃ cs : List Value, (rest.mapM (m := Sem) (fun
          | .tmp t => pure (tmps.getD t Go.undef)
          | .cell a t => do loadVar t (← asAddr (tmps.getD a Go.undef)))).run P w = .ok cs w ∧ cs.length = vs.length ∧ ∀ i, VR h μ (vs.getD i .undef) (cs.getD i Go.undef)) →
        (∀ (ro : Nat) (μ : LMap) (w : World) (tmps : Array Value), TR h μ t tmps → HR ro h μ w → ∃ c, ((fun
          | .tmp t => pure (tmps.getD t Go.undef)
          | .cell a t => do loadVar t (← asAddr (tmps.getD a Go.undef)) : ResultVar → Sem Value) x).run P w = .ok c w ∧ VR h μ v c) →
        ∃ vs, K vs = some r ∧ vs.length = (x :: rest).length ∧ ∀ (ro : Nat) (μ : LMap) (w : World) (tmps : Array Value), TR h μ t tmps → HR ro h μ w →
          ∃ cs : List Value, ((x :: rest).mapM (m := Sem) (fun
            | .tmp t => pure (tmps.getD t Go.undef)
            | .cell a t => do loadVar t (← asAddr (tmps.getD a Go.undef)))).run P w = .ok cs w ∧ cs.length = vs.length ∧ ∀ i, VR h μ (vs.getD i .undef) (cs.getD i Go.undef) := by
      rintro v ⟨vs, hk, hl, hrest⟩ hx
      refine ⟨v :: vs, hk, by simp [hl], fun ro μ w tmps ht H => ?_⟩
      obtain ⟨c, e1, e2⟩ := hx ro μ w tmps ht H
      obtain ⟨cs, f1, f2, f3⟩ := hrest ro μ w tmps ht H
      refine ⟨c :: cs, ?_, by simp [f2], fun i => ?_⟩
      · rw [List.mapM_cons, Sem.run_bind, e1, Result.andThen_ok, Sem.run_bind, f1]
        rfl
      · cases i with
        | zero => exact e2
        | succ i => exact f3 i
    cases x with
    | tmp i =>
      simp only [resultsK] at he
      obtain ⟨vs, hk, hl, hrest⟩ := ih _ he
      exact key _ ⟨vs, hk, hl, hrest⟩ fun ro μ w tmps ht H => ⟨_, rfl, ht.2 i⟩
    | cell i ty =>
      simp only [resultsK] at he
      split at he
      · rename_i p hp
        obtain ⟨v, hk, hld⟩ := loadAt_sound he
        obtain ⟨vs, hk, hl, hrest⟩ := ih _ hk
        refine key v ⟨vs, hk, hl, hrest⟩ fun ro μ w tmps ht H => ?_
        have hv := ht.2 i
        rw [hp] at hv
        obtain ⟨a, ha⟩ := hv.ptr_c
        rw [ha] at hv
        obtain ⟨c, e1, e2⟩ := hld ro μ w a hv H
        refine ⟨c, ?_, e2⟩
        simp only [Sem.run_bind, ha, asAddr_run, Result.andThen_ok]
        exact e1
      · cases he

theorem results_sound {fn : Func} {t : List AV} {h : Heap} {K : List AV → Option α} (he : resultsK P fn.results.toList t h K = some r) :
    ∃ vs, K vs = some r ∧ ∀ (ro : Nat) (μ : LMap) (w : World) (tmps : Array Value), TR h μ t tmps → HR ro h μ w → ∃ c, (results fn tmps).run P w = .ok c w ∧ VR h μ (oneOf vs) c := by
  obtain ⟨vs, hk, hl, hrest⟩ := resultsK_sound _ _ he
  refine ⟨vs, hk, fun ro μ w tmps ht H => ?_⟩
  obtain ⟨cs, e1, e2, e3⟩ := hrest ro μ w tmps ht H
  have hrun : (results fn tmps).run P w = .ok (if h : cs.toArray.size = 1 then cs.toArray[0] else .tuple cs.toArray) w := by
    unfold results
    rw [Array.mapM_eq_mapM_toList, Sem.run_bind, Sem.run_map]
    erw [e1]
    rfl
  refine ⟨_, hrun, ?_⟩
  match vs, cs, e2, e3 with
  | [], [], _, _ => exact .tuple [] #[] rfl fun i => by simpa using VR.undef _
  | [v], [c], _, e3 => exact e3 0
  | v :: v2 :: vs, c :: c2 :: cs, e2, e3 =>
    have hne : ¬ (c :: c2 :: cs).toArray.size = 1 := by simp
    rw [dif_neg hne]
    exact .tuple _ _ (by simpa using e2.symm) fun i => by simpa [List.getD_eq_getElem?_getD, Array.getD_eq_getD_getElem?] using e3 i

theorem leaveCall_sound {n : Nat} {v : AV} {h : Heap} {K : AV → Heap → Option α} (he : leaveCall n v h K = some r) :
    ∃ h', K v h' = some r ∧ (h' = h ∨ (h' = h.take n ∧ refsBelow n v = true ∧ ∀ b, b ∈ h.take n → ∀ seg, seg ∈ b → refsBelow n seg = true)) := by
  unfold leaveCall at he
  rcases br_some he with ⟨_, hk⟩ | ⟨_, hk⟩
  · exact ⟨h, hk, .inl rfl⟩
  · rcases br_some hk with ⟨hb, hk⟩ | ⟨_, hk⟩
    · simp only [Bool.and_eq_true] at hb
      exact ⟨_, hk, .inr ⟨rfl, hb.1, fun b hbm => allB_spec (allB_spec hb.2 b hbm)⟩⟩
    · exact ⟨h, hk, .inl rfl⟩

/-- No function is the one that counts goroutines. -/
def NamesOk (P : Program) : Prop := ∀ (f : FuncId) (fn : Func), P.funcs[f]? = some fn → (fn.name == "runtime.NumGoroutine") = false

theorem NamesOk.of_all (h : (P.funcs.toList.all fun f => !(f.name == "runtime.NumGoroutine")) = true) : NamesOk P := by
  intro f fn hf
  have := List.all_eq_true.1 h fn (by
    have : P.funcs.toList[f]? = some fn := by simpa using hf
    exact List.mem_of_getElem? this)
  simpa using this

/-- The summaries of an environment are as told. -/
structure EnvOk (P : Program) (E : Env α) : Prop where
  sums : ∀ (f : FuncId) (q : Bool) (s : Sum α), E.sums f = some (q, s) → ∀ (ro : Nat) (args : List AV) (h : Heap) (K : AV → Heap → Option α) (r : α), s ro args h K = some r → ∃ v h', K v h' = some r ∧ CallSem P ro f args h v h'
  ls : ∀ (f : FuncId) (fn : Func), P.funcs[f]? = some fn → ∀ c, c ∈ loopsOf fn → ∀ s, E.ls f (firstRegion c) = some s → LoopOk P s c

theorem callE_sound {E : Env α} (hE : EnvOk P E) {c : FuncId → Sum α} (hc : CallsOk P c) : CallsOk P (callE E c) := by
  intro g ro args h K r he
  unfold callE at he
  cases hs : E.sums g with
  | some s =>
    obtain ⟨q, s⟩ := s
    rw [hs] at he
    exact canonCall_sound (hE.sums g q s hs) ro args h K r he
  | none =>
    rw [hs] at he
    exact canonCall_sound (fun ro args h K r => hc g ro args h K r) ro args h K r he

theorem callK_sound (hm : P.follows .mixedOrders = true) (hnames : NamesOk P) {E : Env α} (hE : EnvOk P E) : ∀ d, CallsOk P (callK P E d) := by
  intro d
  induction d with
  | zero => intro f ro args h K r he; simp [callK] at he
  | succ d ih =>
    intro f ro args h K r he
    simp only [callK] at he
    split at he
    · rename_i fn hf
      split at he
      · rename_i c hc
        obtain ⟨hb, he⟩ := br_fail he
        rw [Nat.ble_eq] at hb
        rw [forceL_eq] at he
        obtain ⟨ae, st, hk, hsem⟩ := codeK_sound (callE_sound hE ih) hm _ (fun c' hc' s hs => hE.ls f fn hf c' (by unfold loopsOf; rw [hc]; exact hc') s hs) _ _ he
        have hres : ae = .normal ∨ ae = .ret := by
          cases ae with
          | normal => exact .inl rfl
          | exit i => cases hk
          | ret => exact .inr rfl
        have hk' : (resultsK P fn.results.toList st.t st.h fun vs => leaveCall h.length (oneOf vs) st.h (fun v h' => packK ro h.length v h' K)) = some r := by
          rcases hres with rfl | rfl
          · exact hk
          · exact hk
        obtain ⟨vs, hk2, hr⟩ := results_sound hk'
        obtain ⟨h', hk3, hcut⟩ := leaveCall_sound hk2
        obtain ⟨v9, h9, hk9, hpack⟩ := packK_sound hk3
        refine ⟨v9, h9, hk9, ⟨fn, c, hf, hnames f fn hf, hc⟩, fun μ w cs hlen hargs H => ?_⟩
        refine calls_of_wp hf hc ?_
        refine wp_mono (hsem { tmps := cs ++ Array.replicate (fn.ntmps - cs.size) Go.undef, defers := [] } w μ ⟨by simp [hlen], fun i => ?_⟩ H) ?_
        · simp only
          by_cases hi : i < args.length
          · rw [List.getD_eq_getElem?_getD, List.getElem?_append_left hi, ← List.getD_eq_getElem?_getD, Array.getD_eq_getD_getElem?, Array.getElem?_append_left (by omega), ← Array.getD_eq_getD_getElem?]
            exact hargs i
          · rw [List.getD_eq_getElem?_getD, List.getElem?_append_right (by omega), List.getElem?_replicate]
            split <;> exact .undef _
        · rintro e a' w' ⟨rfl, μ', q1, q2, q3, q4⟩
          obtain ⟨v, e1, e2⟩ := hr ro μ' w' a'.tmps q1 q3
          have hfin : ∃ c, Ending.returned v = .returned c ∧ ∃ μ'', VR h9 μ'' v9 c ∧ HR ro h9 μ'' w' ∧ Ext ro h μ w h9 μ'' w' := by
            rcases hcut with rfl | ⟨rfl, g1, g2⟩
            · exact ⟨v, rfl, hpack h μ μ' w w' v rfl H.rol e2 q3 q4⟩
            · exact ⟨v, rfl, hpack h μ μ' w w' v rfl H.rol (e2.cut (.inr g1)) (q3.cut H.rol (.inr g2)) (q4.cut (Nat.le_refl _))⟩
          rcases hres with rfl | rfl
          · exact ⟨q2, v, e1, hfin⟩
          · exact ⟨q2, v, e1, hfin⟩
      · cases he
    · cases he
end
end Go.AM
