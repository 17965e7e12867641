/- A part of a proof about the given program: an abstract machine, what the given functions come to, and plain laws. -/
import Derived.Test.YtkboldcnkkolkaaAMPart
import Derived.Test.YtkboldcnkkolkaaAMEq
namespace Go.AM
/-- What a call does. -/
def CallSem (P : Program) (ro : Nat) (f : FuncId) (args : List AV) (h : Heap) (v : AV) (h' : Heap) : Prop :=
  (∃ fn c, P.funcs[f]? = some fn ∧ (fn.name == "runtime.NumGoroutine") = false ∧ fn.body = some c) ∧
  ∀ (μ : LMap) (w : World) (cs : Array Value), args.length = cs.size → (∀ i, VR h μ (args.getD i .undef) (cs.getD i Go.undef)) → HR ro h μ w →
    Calls P f cs w fun e w' => ∃ c, e = .returned c ∧ ∃ μ', VR h' μ' v c ∧ HR ro h' μ' w' ∧ Ext ro h μ w h' μ' w'

section
variable {α : Type} {P : Program} {r : α} {ro : Nat} {op : Op} {t : List AV} {h : Heap}

/-- The calls that are gone through are as told. -/
def CallsOk (P : Program) (call : FuncId → Sum α) : Prop :=
  ∀ f ro args h K r, call f ro args h K = some r → ∃ v h', K v h' = some r ∧ CallSem P ro f args h v h'

theorem boolEq_sound {op : BinOp} {xt yt : TypeId} {x y : Operand} {a b q : Bool} (hu : P.underlying xt = some .bool) (hx : evalO t x = .bool a) (hy : evalO t y = .bool b)
    (hq : (op = .eql ∧ q = (a == b)) ∨ (op = .neq ∧ q = (a != b))) : OpSem P ro (.binOp op xt x y yt) t h (.bool q) h := by
  refine .of_pure fun o ac w μ ho hop H => ?_
  have v1 := hop x (by simp [Op.operands])
  have v2 := hop y (by simp [Op.operands])
  rw [hx] at v1
  rw [hy] at v2
  generalize hq1 : ac.eval x = q1 at *
  generalize hq2 : ac.eval y = q2 at *
  cases v1; cases v2
  refine ⟨_, ?_, .bool _⟩
  have hg : (eqGuard op xt x y (.bool a) (.bool b)).run P w = .ok () w := by
    unfold eqGuard
    split <;> rfl
  have he : (Op.equal xt (.bool a) (.bool b)).run P w = .ok (a == b) w := by
    unfold Op.equal
    rw [show Op.maxDepth = (Op.maxDepth - 1) + 1 from rfl]
    simp [Op.equalIn, run_underlying hu]
  simp only [execOp, ho, hq1, hq2]
  rcases hq with ⟨rfl, rfl⟩ | ⟨rfl, rfl⟩
  · simp [Sem.run_bind, hg, binOp, he]
  · simp [Sem.run_bind, hg, binOp, he, bne]

theorem aggEq_sound {op : BinOp} {xt yt : TypeId} {x y : Operand} {ss ss' : List AV} {b q : Bool} (hx : evalO t x = .agg ss) (hy : evalO t y = .agg ss')
    (hb : ∀ (h : Heap) (μ : LMap) (c d : Value) (w : World), VR h μ (.agg ss) c → VR h μ (.agg ss') d → ∃ xs ys, c = .agg xs ∧ d = .agg ys ∧ (Op.equalIn 10000 xt c d).run P w = .ok b w ∧ P.eqGuardType P.depth xt = false)
    (hq : (op = .eql ∧ q = b) ∨ (op = .neq ∧ q = !b)) : OpSem P ro (.binOp op xt x y yt) t h (.bool q) h := by
  refine .of_pure fun o ac w μ ho hop H => ?_
  have v1 := hop x (by simp [Op.operands])
  have v2 := hop y (by simp [Op.operands])
  rw [hx] at v1
  rw [hy] at v2
  obtain ⟨xs, ys, e1, e2, e3, e4⟩ := hb h μ _ _ w v1 v2
  rw [e1, e2] at e3
  refine ⟨_, ?_, .bool _⟩
  have hg : ∀ op', (eqGuard op' xt x y (.agg xs) (.agg ys)).run P w = .ok () w := by
    intro op'
    unfold eqGuard
    cases op' <;> simp [Sem.run_bind, e4]
  simp only [execOp, ho, e1, e2]
  rcases hq with ⟨rfl, rfl⟩ | ⟨rfl, rfl⟩
  · simp [Sem.run_bind, hg, run_eql_struct, e3]
  · simp [Sem.run_bind, hg, run_neq_struct, e3]

/-- Operations on slots alone: whatever the heap. -/
theorem opP_sound {gv : Bool} {call : FuncId → Sum α} {K : AV → Heap → Option α} (hp : isP op = true) (he : opK P gv ro call op t h K = some r) :
    ∃ v, K v h = some r ∧ ∀ (ro' : Nat) (h2 : Heap), OpSem P ro' op t h2 v h2 := by
  cases op <;> simp only [isP, Bool.false_eq_true] at hp
  case move x => exact ⟨_, he, fun _ _ => move_sound (.inl rfl)⟩
  case assign x => exact ⟨_, he, fun _ _ => move_sound (.inr rfl)⟩
  case pick c x y =>
    simp only [opK] at he
    split at he
    · rename_i b hc
      rcases br_some he with ⟨rfl, hk⟩ | ⟨rfl, hk⟩
      · exact ⟨_, hk, fun _ _ => pick_sound hc⟩
      · exact ⟨_, hk, fun _ _ => pick_sound hc⟩
    · cases he
  case binOp op xt x y yt =>
    simp only [opK] at he
    split at he
    · rename_i a hx
      split at he
      · rename_i b hy
        split at he
        · rename_i hu
          split at he
          · exact ⟨_, he, fun _ _ => boolEq_sound hu hx hy (.inl ⟨rfl, rfl⟩)⟩
          · exact ⟨_, he, fun _ _ => boolEq_sound hu hx hy (.inr ⟨rfl, rfl⟩)⟩
          · cases he
        · cases he
      · cases he
    · rename_i ss hx
      split at he
      · rename_i ss' hy
        split at he
        · obtain ⟨b, hk, hb⟩ := goEqAgg_sound he
          exact ⟨_, hk, fun _ _ => aggEq_sound hx hy hb (.inl ⟨rfl, rfl⟩)⟩
        · obtain ⟨b, hk, hb⟩ := goEqAgg_sound he
          exact ⟨_, hk, fun _ _ => aggEq_sound hx hy hb (.inr ⟨rfl, rfl⟩)⟩
        · cases he
      · cases he
    · obtain ⟨v, hk, hb⟩ := goBin_sound (P := P) he
      exact ⟨v, hk, fun _ _ => binOp_sound hb⟩
  case unOp op xt x =>
    simp only [opK] at he
    obtain ⟨v, hk, hb⟩ := goUn_sound (P := P) he
    exact ⟨v, hk, fun _ _ => unOp_sound hb⟩
  case convert s d x =>
    simp only [opK] at he
    obtain ⟨v, hk, hb⟩ := goConvert_sound (P := P) he
    exact ⟨v, hk, fun _ _ => convert_sound hb⟩
  case index ty x i =>
    simp only [opK] at he
    obtain ⟨v, hk, hb⟩ := goIndex_sound (P := P) he
    exact ⟨v, hk, fun ro h => hb ro h⟩
  case field ty x f =>
    simp only [opK] at he
    obtain ⟨v, hk, hb⟩ := goField_sound (P := P) he
    exact ⟨v, hk, fun ro h => hb ro h⟩
  case extract x i =>
    simp only [opK] at he
    split at he
    · rename_i vs hx
      split at he
      · rename_i v hi
        exact ⟨v, he, fun _ _ => extract_sound hx hi⟩
      · cases he
    · cases he

theorem minmax_sound {b : Builtin} {x y : Operand} {ats : Array TypeId} {k k' : IntKind} {m n q : Int} (hx : evalO t x = .int k m) (hy : evalO t y = .int k' n)
    (hq : q = m ∨ q = n) (hkk : k = k') (hrun : ∀ ty cc w, (builtin b ats ty cc #[.int k m, .int k' n]).run P w = .ok (.value (.int k q)) w) :
    OpSem P ro (.call ⟨.builtin b, #[x, y], ats⟩) t h (.int k q) h := by
  refine .of_pure fun o a w μ ho hop H => ?_
  have v1 := hop x (by simp [Op.operands, Call.operands])
  have v2 := hop y (by simp [Op.operands, Call.operands])
  rw [hx] at v1
  rw [hy] at v2
  subst hkk
  generalize hq1 : a.eval x = q1 at *
  generalize hq2 : a.eval y = q2 at *
  cases v1 with | int _ _ f1 =>
  cases v2 with | int _ _ f2 =>
  refine ⟨.int k q, ?_, .int _ _ ?_⟩
  · simp only [execOp, ho, resolve, invoke, Sem.run_bind, Sem.run_pure, Result.andThen_ok]
    rw [show (#[x, y].map a.eval) = #[.int k m, .int k n] by simp [hq1, hq2]]
    exact hrun _ _ _
  · rcases hq with rfl | rfl
    · exact f1
    · exact f2

theorem run_callFunc_enter {f : FuncId} {fn : Func} {c : Code} (hf : P.funcs[f]? = some fn) (hname : (fn.name == "runtime.NumGoroutine") = false) (hb : fn.body = some c) (args : Array Value) (w : World) :
    (callFunc f args).run P w = .ok (.enter f args) w := by
  have h1 : fn.name ≠ "runtime.NumGoroutine" := by simpa using hname
  simp [callFunc, hf, h1, hb]

theorem map_two {β γ : Type} {f : β → γ} {l : List β} {a b : γ} (hl : l.map f = [a, b]) : ∃ y z, l = [y, z] ∧ f y = a ∧ f z = b := by
  cases l with
  | nil => cases hl
  | cons y l =>
    cases l with
    | nil => simp at hl
    | cons z l =>
      cases l with
      | nil => simp only [List.map_cons, List.map_nil, List.cons.injEq, and_true] at hl; exact ⟨y, z, rfl, hl.1, hl.2⟩
      | cons _ _ => simp at hl

theorem callValue_sound {call : FuncId → Sum α} (hcall : CallsOk P call) {f : Operand} {args : Array Operand} {ats : Array TypeId} {g : FuncId} {caps : List AV} {K : AV → Heap → Option α} (hf : evalO t f = .func g caps)
    (he : call g ro (args.toList.map (evalO t) ++ caps) h K = some r) : ∃ v h', K v h' = some r ∧ OpSem P ro (.call ⟨.value f, args, ats⟩) t h v h' := by
  obtain ⟨v, h', hk, ⟨fn, c, hfn, hname, hbody⟩, hs⟩ := hcall _ _ _ _ _ _ he
  refine ⟨v, h', hk, fun o a w μ next Q ho hop H hn => ?_⟩
  have hvf := hop f (by simp [Op.operands, Call.operands])
  rw [hf] at hvf
  generalize hq : a.eval f = q at *
  cases hvf with | func _ _ cs h1 h2 =>
  obtain ⟨e1, e2⟩ := maps_VR (l := args) (a := a) (μ := μ) (h := h) (t := t) (fun x hx => hop x (by simp [Op.operands, Call.operands, hx]))
  have hrun : (execOp a.eval o).run P w = .ok (.enter g (args.map a.eval ++ cs)) w := by
    have := run_callFunc_enter (P := P) hfn hname hbody (args.map a.eval ++ cs) w
    simp only [execOp, ho, resolve, hq, Deferred.ofValue, Sem.run_bind, Sem.run_pure, Result.andThen_ok, invoke]
    simpa using this
  unfold Oper.wp
  rw [hrun]
  refine (hs μ w (args.map a.eval ++ cs) ?_ (fun i => ?_) H).mono fun e w' hR => ?_
  · simp at e1 ⊢; omega
  · by_cases hi : i < args.size
    · have := e2 i
      rw [List.getD_eq_getElem?_getD, List.getElem?_append_left (by simpa using hi), ← List.getD_eq_getElem?_getD, Array.getD_eq_getD_getElem?, Array.getElem?_append_left (by simpa using hi), ← Array.getD_eq_getD_getElem?]
      exact this
    · have := h2 (i - args.size)
      rw [List.getD_eq_getElem?_getD, List.getElem?_append_right (by simp; omega), ← List.getD_eq_getElem?_getD, Array.getD_eq_getD_getElem?, Array.getElem?_append_right (by simp; omega), ← Array.getD_eq_getD_getElem?]
      simpa using this
  · obtain ⟨c', rfl, μ', q1, q2, q3⟩ := hR
    exact hn μ' w' c' q1 q2 q3

theorem opK_sound {gv : Bool} {call : FuncId → Sum α} (hcall : CallsOk P call) {K : AV → Heap → Option α} (he : opK P gv ro call op t h K = some r) :
    ∃ v h', K v h' = some r ∧ OpSem P ro op t h v h' := by
  by_cases hp : isP op = true
  · obtain ⟨v, hk, hs⟩ := opP_sound hp he
    exact ⟨v, h, hk, hs ro h⟩
  cases op <;> simp only [isP, not_true_eq_false] at hp
  case alloc e =>
    simp only [opK] at he
    split at he
    · rename_i ss hz
      obtain ⟨hb, hk⟩ := br_fail he
      simp only [Bool.and_eq_true, Bool.not_eq_true'] at hb
      exact ⟨_, _, hk, alloc_sound hz hb.1 hb.2⟩
    · cases he
  case box e x =>
    simp only [opK] at he
    split at he
    · rename_i ss hx
      obtain ⟨hb, hk⟩ := br_fail he
      simp only [Bool.and_eq_true, Nat.blt_eq, Bool.not_eq_true'] at hb
      exact ⟨_, _, hk, box_agg_sound hx hb.1 hb.2.1 hb.2.2⟩
    · obtain ⟨hb, hk⟩ := br_fail he
      exact ⟨_, _, hk, box_one_sound rfl hb⟩
  case build ty ps =>
    simp only [opK] at he
    obtain ⟨v, hk, hs⟩ := goBuild_sound (P := P) (ro := ro) he
    exact ⟨v, h, hk, hs⟩
  case buildSlice ty n ps => exact goBuildSlice_sound he
  case load ty x =>
    simp only [opK] at he
    split at he
    · rename_i p hx
      obtain ⟨v, hk, hl⟩ := loadAt_sound he
      exact ⟨v, h, hk, load_sound hx hl⟩
    · rename_i p c hx
      obtain ⟨v, hk, hl⟩ := loadRec_sound (K := fun v => K v h) he
      exact ⟨v, h, hk, loadR_sound hx hl⟩
    · cases he
  case store ty x y =>
    simp only [opK] at he
    split at he
    · rename_i p hx
      obtain ⟨hb, hk⟩ := br_fail he
      simp only [Bool.and_eq_true, Nat.blt_eq] at hb
      obtain ⟨v', h1, hk, hci, hg⟩ := giveTo_sound hk
      obtain ⟨h', hk, hs⟩ := storeAt_sound (P := P) (by rw [hci]; exact Nat.eq_of_beq_eq_true hb.1) hb.2 hk
      exact ⟨.undef, h', hk, storeG_sound hx hg hs⟩
    · rename_i p c hx
      obtain ⟨hb, hk⟩ := br_fail he
      obtain ⟨h', hk, hs⟩ := storeRec_sound (P := P) (Nat.eq_of_beq_eq_true hb) hk
      exact ⟨.undef, h', hk, storeR_sound hx hs⟩
    · cases he
  case nilCheck x =>
    simp only [opK] at he
    split at he
    · rename_i p hx
      exact ⟨_, _, he, nilCheck_ptr_sound hx⟩
    · rename_i f caps hx
      exact ⟨_, _, he, nilCheck_func_sound hx⟩
    · cases he
  case makeFunc fn first caps =>
    simp only [opK] at he
    split at he
    · obtain ⟨hb, hk⟩ := br_fail he
      exact ⟨_, _, hk, makeFunc_sound hb⟩
    · cases he
  case makeSlice ty l c => exact goMakeSlice_sound he
  case slice ty x lo hi mx =>
    simp only [opK] at he
    obtain ⟨hb, hk⟩ := br_fail he
    obtain ⟨v, hk, hs⟩ := goSlice_sound (P := P) (ro := ro) (fun hm => by simpa [hm] using hb) hk
    exact ⟨v, h, hk, hs⟩
  case fieldAddr ty x f =>
    simp only [opK] at he
    obtain ⟨v, hk, hs⟩ := goFieldAddr_sound (P := P) (ro := ro) he
    exact ⟨v, h, hk, hs⟩
  case indexAddr ty x i =>
    simp only [opK] at he
    obtain ⟨v, hk, hs⟩ := goIndexAddr_sound (P := P) (ro := ro) he
    exact ⟨v, h, hk, hs⟩
  case call c =>
    obtain ⟨callee, args, ats⟩ := c
    simp only [opK] at he
    split at he
    · split at he
      · rename_i f g caps hf
        exact callValue_sound hcall hf he
      · cases he
    · rename_i b
      split at he
      · rename_i x t' hargs hats
        obtain ⟨y, hy, rfl⟩ : ∃ y, args = #[y] ∧ evalO t y = x := by
          obtain ⟨l⟩ := args
          simp only [List.map_eq_singleton_iff] at hargs
          obtain ⟨y, e1, e2⟩ := hargs
          exact ⟨y, by rw [e1], e2⟩
        have hat : ats = #[t'] := by
          obtain ⟨l⟩ := ats
          simp only at hats
          rw [hats]
        subst hy hat
        obtain ⟨v, hk, hs⟩ := goLen_sound (P := P) (ro := ro) (h := h) rfl he
        exact ⟨v, h, hk, hs⟩
      · rename_i s x t' t'' hargs hats
        obtain ⟨hb, hk⟩ := br_fail he
        have := Nat.eq_of_beq_eq_true hb
        subst this
        obtain ⟨y, z, hy, rfl, rfl⟩ : ∃ y z, args = #[y, z] ∧ evalO t y = s ∧ evalO t z = x := by
          obtain ⟨l⟩ := args
          obtain ⟨y, z, e1, e2⟩ := map_two hargs
          exact ⟨y, z, congrArg Array.mk e1, e2⟩
        have hat : ats = #[t', t'] := by
          obtain ⟨l⟩ := ats
          simp only at hats
          rw [hats]
        subst hy hat
        exact goAppend_sound rfl hk
      · rename_i k x k' y hargs
        obtain ⟨hb, hk⟩ := br_fail he
        have hkk := keq_eq hb
        obtain ⟨y', z', hy, hy1, hy2⟩ : ∃ y' z', args = #[y', z'] ∧ evalO t y' = .int k x ∧ evalO t z' = .int k' y := by
          obtain ⟨l⟩ := args
          obtain ⟨y, z, e1, e2⟩ := map_two hargs
          exact ⟨y, z, congrArg Array.mk e1, e2⟩
        subst hy
        refine ⟨_, h, hk, minmax_sound hy1 hy2 ?_ hkk fun ty cc w => ?_⟩
        · cases decide (y < x)
          · exact .inl rfl
          · exact .inr rfl
        · by_cases hlt : y < x <;> simp [builtin, Builtin.min_, Builtin.min2, hlt]
      · rename_i k x k' y hargs
        obtain ⟨hb, hk⟩ := br_fail he
        have hkk := keq_eq hb
        obtain ⟨y', z', hy, hy1, hy2⟩ : ∃ y' z', args = #[y', z'] ∧ evalO t y' = .int k x ∧ evalO t z' = .int k' y := by
          obtain ⟨l⟩ := args
          obtain ⟨y, z, e1, e2⟩ := map_two hargs
          exact ⟨y, z, congrArg Array.mk e1, e2⟩
        subst hy
        refine ⟨_, h, hk, minmax_sound hy1 hy2 ?_ hkk fun ty cc w => ?_⟩
        · cases decide (x < y)
          · exact .inl rfl
          · exact .inr rfl
        · by_cases hlt : x < y <;> simp [builtin, Builtin.max_, Builtin.max2, hlt]
      · cases he
    · cases he
  all_goals simp only [opK, reduceCtorEq] at he
end
end Go.AM
