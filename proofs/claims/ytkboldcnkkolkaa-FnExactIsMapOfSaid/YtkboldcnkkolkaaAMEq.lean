/- A part of a proof about the given program: an abstract machine, what the given functions come to, and plain laws. -/
import Derived.Test.YtkboldcnkkolkaaAMNum
import Derived.DeepKeys
import Derived.Laws.StructEq
namespace Go.AM
section
variable {P : Program}

/-- Cells that are numbers, their numbers changed. -/
def subV (s : Int → Int) : Value → Value
  | .int k n => .int k (s n)
  | v => v
def subL (s : Int → Int) : Lit → Lit
  | .int k n => .int k (s n)
  | l => l
/-- All cells are numbers, and stay numbers of their kinds. -/
def IntsFor (s : Int → Int) (cs : List Value) : Prop := ∀ v, v ∈ cs → ∃ k n, v = .int k n ∧ (Lit.int k (s n)).wf = true
theorem mapM_nat {β : Type} {γ δ : Type} (f : β → Option γ) (f' : β → Option δ) (g : γ → δ) : ∀ l : List β, (∀ x, x ∈ l → ∀ y, f x = some y → f' x = some (g y)) → ∀ ys, l.mapM f = some ys → l.mapM f' = some (ys.map g) := by
  intro l
  induction l with
  | nil => intro _ ys h; simp at h; subst h; rfl
  | cons x l ih =>
    intro hx ys h
    rw [List.mapM_cons] at h
    simp only [Option.bind_eq_bind, Option.bind_eq_some_iff, Option.pure_def, Option.some.injEq] at h
    obtain ⟨y, h1, zs, h2, rfl⟩ := h
    rw [List.mapM_cons, hx x (by simp) y h1]
    simp only [Option.bind_eq_bind, Option.bind_some, Option.pure_def]
    rw [ih (fun x hm => hx x (by simp [hm])) zs h2]
    rfl
theorem keyLits_sub (s : Int → Int) : ∀ (D : Nat) (t : TypeId) (cs : List Value) (l : List Lit), IntsFor s cs → P.keyLits D t cs = some l → P.keyLits D t (cs.map (subV s)) = some (l.map (subL s)) := by
  intro D
  induction D with
  | zero => intro t cs l _ h; simp [Program.keyLits] at h
  | succ D ih =>
    intro t cs l hcs h
    have sub : ∀ a b : Nat, IntsFor s ((cs.drop a).take b) := fun a b v hv => hcs v (List.mem_of_mem_drop (List.mem_of_mem_take hv))
    have hmap : ∀ a b : Nat, ((cs.map (subV s)).drop a).take b = ((cs.drop a).take b).map (subV s) := fun a b => by rw [List.map_take, List.map_drop]
    unfold Program.keyLits at h ⊢
    cases hu : P.underlying t with
    | none => rw [hu] at h; cases h
    | some d =>
      rw [hu] at h
      have shape : cs = [] ∨ (∃ k n, cs = [.int k n] ∧ (Lit.int k (s n)).wf = true) ∨ ∃ a b r, cs = a :: b :: r := by
        rcases cs with _ | ⟨v, _ | ⟨w, r⟩⟩
        · exact .inl rfl
        · obtain ⟨k, n, rfl, hw⟩ := hcs v (by simp)
          exact .inr (.inl ⟨k, n, rfl, hw⟩)
        · exact .inr (.inr ⟨v, w, r, rfl⟩)
      cases d
      case bool => rcases shape with rfl | ⟨k, n, rfl, _⟩ | ⟨a, b, r, rfl⟩ <;> simp at h
      case string => rcases shape with rfl | ⟨k, n, rfl, _⟩ | ⟨a, b, r, rfl⟩ <;> simp at h
      case int q =>
        rcases shape with rfl | ⟨k, n, rfl, hw⟩ | ⟨a, b, r, rfl⟩
        · simp at h
        · simp only at h
          split at h
          · rename_i hq
            cases h
            simp only [List.map_cons, List.map_nil, subV, subL]
            rw [if_pos ⟨hq.1, by rw [← hq.1]; exact hw⟩]
          · cases h
        · simp at h
      case array n e =>
        simp only at h
        split at h
        · rename_i hl
          simp only [Option.map_eq_some_iff] at h
          obtain ⟨ys, h1, rfl⟩ := h
          simp only [List.length_map]
          rw [if_pos hl, mapM_nat _ (fun i => P.keyLits D e (((cs.map (subV s)).drop (i * P.cellsOf e)).take (P.cellsOf e))) (List.map (subL s)) _ (fun i _ y hy => by rw [hmap]; exact ih e _ y (sub _ _) hy) ys h1]
          simp [List.map_flatten]
        · cases h
      case struct fs =>
        simp only at h
        split at h
        · rename_i hl
          simp only [Option.map_eq_some_iff] at h
          obtain ⟨ys, h1, rfl⟩ := h
          simp only [List.length_map]
          rw [if_pos hl, mapM_nat _ (fun f => P.keyLits D f.type (((cs.map (subV s)).drop f.offset).take (P.cellsOf f.type))) (List.map (subL s)) _ (fun f _ y hy => by rw [hmap]; exact ih f.type _ y (sub _ _) hy) ys h1]
          simp [List.map_flatten]
        · cases h
      all_goals simp at h

theorem kindsL_spec : ∀ (vs : List AV) (ks : List IntKind), kindsL vs = some ks → ∃ ns : List Int, ns.length = ks.length ∧ vs = List.zipWith AV.int ks ns := by
  intro vs
  induction vs with
  | nil => intro ks h; simp only [kindsL, Option.some.injEq] at h; subst h; exact ⟨[], rfl, rfl⟩
  | cons v vs ih =>
    intro ks h
    cases v <;> simp only [kindsL, reduceCtorEq] at h
    rename_i k n
    cases hq : kindsL vs with
    | none => rw [hq] at h; cases h
    | some ks' =>
      rw [hq] at h
      simp only [Option.some.injEq] at h
      subst h
      obtain ⟨ns, h1, h2⟩ := ih ks' hq
      exact ⟨n :: ns, by simp [h1], by rw [h2]; rfl⟩
theorem sameKinds_eq : ∀ {a b : List IntKind}, sameKinds a b = true → a = b
  | [], [], _ => rfl
  | [], _ :: _, h => by simp [sameKinds] at h
  | _ :: _, [], h => by simp [sameKinds] at h
  | x :: a, y :: b, h => by
    simp only [sameKinds] at h
    cases hq : keq x y with
    | false => rw [hq] at h; cases h
    | true =>
      rw [hq] at h
      have e : x = y := by cases x <;> cases y <;> first | rfl | simp [keq] at hq
      rw [e, sameKinds_eq h]
theorem eqCellsK_spec {α : Type} {r : α} : ∀ (ks : List IntKind) (as bs : List Int) (K : Bool → Option α), as.length = ks.length → bs.length = ks.length →
    eqCellsK (List.zipWith AV.int ks as) (List.zipWith AV.int ks bs) K = some r → ∃ b, K b = some r ∧ (b = true ↔ as = bs) := by
  intro ks
  induction ks with
  | nil =>
    intro as bs K h1 h2 h
    have : as = [] := List.length_eq_zero_iff.1 h1
    have : bs = [] := List.length_eq_zero_iff.1 h2
    subst as; subst bs
    exact ⟨true, h, by simp⟩
  | cons k ks ih =>
    intro as bs K h1 h2 h
    rcases as with _ | ⟨a, as⟩
    · simp at h1
    · rcases bs with _ | ⟨b, bs⟩
      · simp at h2
      · simp only [List.zipWith_cons_cons, eqCellsK] at h
        obtain ⟨q, hk, hq⟩ := ih as bs _ (by simpa using h1) (by simpa using h2) h
        refine ⟨_, hk, ?_⟩
        rw [Bool.and_eq_true, hq]
        simp
theorem probe_sub : ∀ (ks : List IntKind) (ns : List Int) (i : Nat) (s : Int → Int), ns.length = ks.length → (∀ j, j < ns.length → s ((i + j : Nat) : Int) = ns.getD j 0) → (probe i ks).map (subV s) = List.zipWith Value.int ks ns := by
  intro ks
  induction ks with
  | nil => intro ns i s _ _; simp [probe]
  | cons k ks ih =>
    intro ns i s h1 h2
    rcases ns with _ | ⟨n, ns⟩
    · simp at h1
    · have e0 := h2 0 (by simp)
      simp only [Nat.add_zero, List.getD_cons_zero] at e0
      simp only [probe, List.map_cons, subV, List.zipWith_cons_cons, e0]
      rw [ih ns (i + 1) s (by simpa using h1) fun j hj => by
        have := h2 (j + 1) (by simpa using hj)
        rw [show i + 1 + j = i + (j + 1) by omega, this]
        simp]
theorem lits_sub : ∀ (ks : List IntKind) (ns : List Int) (i : Nat) (s : Int → Int) (l : List Lit), ns.length = ks.length → (∀ j, j < ns.length → s ((i + j : Nat) : Int) = ns.getD j 0) → litsB i ks l = true → l.map (subL s) = List.zipWith Lit.int ks ns := by
  intro ks
  induction ks with
  | nil => intro ns i s l _ _ h; cases l <;> simp [litsB] at h ⊢
  | cons k ks ih =>
    intro ns i s l h1 h2 h
    rcases ns with _ | ⟨n, ns⟩
    · simp at h1
    · rcases l with _ | ⟨x, l⟩
      · simp [litsB] at h
      · cases x <;> simp only [litsB, Bool.false_eq_true] at h
        rename_i k' m
        cases hq : (keq k k' && (m == (i : Int))) with
        | false => rw [hq] at h; cases h
        | true =>
          rw [hq] at h
          simp only [Bool.and_eq_true, beq_iff_eq] at hq
          have ek : k = k' := by have := hq.1; cases k <;> cases k' <;> first | rfl | simp [keq] at this
          have e0 := h2 0 (by simp)
          simp only [Nat.add_zero, List.getD_cons_zero] at e0
          simp only [List.map_cons, subL, List.zipWith_cons_cons, hq.2, e0, ek]
          rw [ih ns (i + 1) s l (by simpa using h1) (fun j hj => by
            have := h2 (j + 1) (by simpa using hj)
            rw [show i + 1 + j = i + (j + 1) by omega, this]
            simp) h]
theorem zip_inj : ∀ (ks : List IntKind) (as bs : List Int), as.length = ks.length → bs.length = ks.length → (List.zipWith Lit.int ks as = List.zipWith Lit.int ks bs ↔ as = bs) := by
  intro ks
  induction ks with
  | nil => intro as bs h1 h2; rw [List.length_eq_zero_iff.1 h1, List.length_eq_zero_iff.1 h2]; simp
  | cons k ks ih =>
    intro as bs h1 h2
    rcases as with _ | ⟨a, as⟩
    · simp at h1
    · rcases bs with _ | ⟨b, bs⟩
      · simp at h2
      · simp [ih as bs (by simpa using h1) (by simpa using h2)]
theorem probe_mem : ∀ (ks : List IntKind) (i : Nat) (v : Value), v ∈ probe i ks → ∃ j k, ks[j]? = some k ∧ v = .int k ((i + j : Nat) : Int) := by
  intro ks
  induction ks with
  | nil => intro i v h; simp [probe] at h
  | cons k ks ih =>
    intro i v h
    simp only [probe, List.mem_cons] at h
    rcases h with rfl | h
    · exact ⟨0, k, rfl, rfl⟩
    · obtain ⟨j, k', h1, h2⟩ := ih (i + 1) v h
      exact ⟨j + 1, k', by simpa using h1, by rw [h2, show i + 1 + j = i + (j + 1) by omega]⟩
theorem zip_get (ks : List IntKind) (ns : List Int) (hn : ns.length = ks.length) (j : Nat) : (List.zipWith AV.int ks ns).getD j .undef = (match ks[j]? with | some k => .int k (ns.getD j 0) | none => .undef) := by
  rw [List.getD_eq_getElem?_getD, List.getElem?_zipWith]
  cases h : ks[j]? with
  | none => rfl
  | some k =>
    have hj : j < ns.length := by have := (List.getElem?_eq_some_iff.1 h).1; omega
    simp [List.getElem?_eq_getElem hj, List.getD_eq_getElem?_getD]

/-- The cells of a row of numbers. -/
theorem agg_nums {h : Heap} {μ : LMap} {ss : List AV} {c : Value} {ks : List IntKind} {ns : List Int} (hn : ns.length = ks.length) (hf : flat ss = List.zipWith AV.int ks ns) (hv : VR h μ (.agg ss) c) :
    ∃ cs : Array Value, c = .agg cs ∧ cs.toList = List.zipWith Value.int ks ns ∧ ∀ j k, ks[j]? = some k → fits k (ns.getD j 0) = true := by
  cases hv with
  | agg _ cs h1 h2 =>
    rw [hf] at h1 h2
    have key : ∀ j k, ks[j]? = some k → cs.getD j Go.undef = .int k (ns.getD j 0) ∧ fits k (ns.getD j 0) = true := by
      intro j k hk
      have := h2 j
      rw [zip_get ks ns hn, hk] at this
      generalize cs.getD j Go.undef = q at this
      cases this with | int _ _ hfit => exact ⟨rfl, hfit⟩
    refine ⟨cs, rfl, List.ext_getElem? fun j => ?_, fun j k hk => (key j k hk).2⟩
    have hl : cs.size = ks.length := by rw [← h1]; simp [hn]
    rw [List.getElem?_zipWith]
    cases hk : ks[j]? with
    | none =>
      have := List.getElem?_eq_none_iff.1 hk
      rw [List.getElem?_eq_none (by simp; omega)]
    | some k =>
      have hj := (List.getElem?_eq_some_iff.1 hk).1
      have e := (key j k hk).1
      have hc : j < cs.size := by omega
      rw [Array.getD_eq_getD_getElem?, Array.getElem?_eq_getElem hc, Option.getD_some] at e
      have hjn : j < ns.length := by omega
      simp [hc, e, List.getElem?_eq_getElem hjn, List.getD_eq_getElem?_getD]

theorem goEqAgg_sound {α : Type} {r : α} {t : TypeId} {ss ss' : List AV} {K : Bool → Option α} (he : goEqAgg P t ss ss' K = some r) :
    ∃ b, K b = some r ∧ ∀ (h : Heap) (μ : LMap) (c d : Value) (w : World), VR h μ (.agg ss) c → VR h μ (.agg ss') d → ∃ xs ys, c = .agg xs ∧ d = .agg ys ∧ (Op.equalIn 10000 t c d).run P w = .ok b w ∧ P.eqGuardType P.depth t = false := by
  unfold goEqAgg at he
  split at he
  · rename_i ks ks' hk hk'
    obtain ⟨hb, he2⟩ := br_fail he
    clear he
    simp only [Bool.and_eq_true] at hb
    have := sameKinds_eq hb.1
    subst this
    obtain ⟨as, ha1, ha2⟩ := kindsL_spec _ _ hk
    obtain ⟨bs, hb1, hb2⟩ := kindsL_spec _ _ hk'
    rw [ha2, hb2] at he2
    obtain ⟨b, hkb, hbe⟩ := eqCellsK_spec ks as bs K ha1 hb1 he2
    have ho := hb.2
    unfold eqOk at ho
    simp only [Bool.and_eq_true, Bool.not_eq_true'] at ho
    obtain ⟨hsz, hkt, hg, hagg, hlit⟩ := ho
    have hsz := Nat.eq_of_beq_eq_true hsz
    refine ⟨b, hkb, fun h μ c d w hc hd => ?_⟩
    obtain ⟨xs, rfl, hx, hxf⟩ := agg_nums ha1 ha2 hc
    obtain ⟨ys, rfl, hy, hyf⟩ := agg_nums hb1 hb2 hd
    refine ⟨xs, ys, rfl, rfl, ?_, hg⟩
    cases hkl : P.keyLits 9 t (probe 0 ks) with
    | none => rw [hkl] at hlit; cases hlit
    | some l =>
      rw [hkl] at hlit
      simp only at hlit
      have lits : ∀ ns : List Int, ns.length = ks.length → (∀ j k, ks[j]? = some k → fits k (ns.getD j 0) = true) → P.keyLits 9 t (List.zipWith Value.int ks ns) = some (List.zipWith Lit.int ks ns) := by
        intro ns hn hf
        have hs : ∀ j, j < ns.length → (fun x : Int => ns.getD x.toNat 0) ((0 + j : Nat) : Int) = ns.getD j 0 := fun j _ => by simp
        have := keyLits_sub (P := P) (fun x => ns.getD x.toNat 0) 9 t (probe 0 ks) l (fun v hv => by
          obtain ⟨j, k, h1, h2⟩ := probe_mem ks 0 v hv
          refine ⟨k, _, h2, ?_⟩
          have hfj := hf j k h1
          rw [fits_iff] at hfj
          have e : (((0 + j : Nat) : Int)).toNat = j := by simp
          simp only [Lit.wf, e, Bool.and_eq_true, decide_eq_true_eq]
          cases k <;> exact hfj) hkl
        rw [probe_sub ks ns 0 _ hn hs, lits_sub ks ns 0 _ l hn hs hlit] at this
        exact this
      have hform : ∀ zs : Array Value, zs.toList.length = ks.length → (Value.agg zs).formed P t = true := by
        intro zs hz
        unfold Value.formed
        cases hu : P.underlying t with
        | none => rw [hu] at hagg; cases hagg
        | some dd => cases dd <;> rw [hu] at hagg <;> first | (simp only; rw [hsz, ← hz]; simp; done) | cases hagg
      obtain ⟨q, hq1, hq2⟩ := run_equalIn_deep (P := P) 9991 9 t hkt w 9 9 (.agg xs) (.agg ys) _ _ (hform xs (by rw [hx]; simp [ha1])) (hform ys (by rw [hy]; simp [hb1])) (by simp only [Value.cells]; rw [hx]; exact lits as ha1 hxf) (by simp only [Value.cells]; rw [hy]; exact lits bs hb1 hyf)
      rw [zip_inj ks as bs ha1 hb1, ← hbe] at hq2
      have : q = b := by cases q <;> cases b <;> simp_all
      rw [← this]
      exact hq1
  · cases he
end
end Go.AM
