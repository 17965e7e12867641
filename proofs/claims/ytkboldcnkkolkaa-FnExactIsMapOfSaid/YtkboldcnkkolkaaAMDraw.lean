/- A part of a proof about the given program: an abstract machine, what the given functions come to, and plain laws. -/
import Derived.Test.YtkboldcnkkolkaaAMRegion
import Derived.Orders
namespace Go.AM
section

theorem elemB_spec {n : Nat} : ∀ {l : List Nat}, elemB n l = true → n ∈ l := by
  intro l
  induction l with
  | nil => intro h; simp [elemB] at h
  | cons m ms ih =>
    intro h
    simp only [elemB] at h
    cases hq : Nat.beq n m with
    | true => rw [Nat.eq_of_beq_eq_true hq]; simp
    | false => rw [hq] at h; simp only [cond_false] at h; simp [ih h]
theorem elemB_of {n : Nat} : ∀ {l : List Nat}, n ∈ l → elemB n l = true := by
  intro l
  induction l with
  | nil => intro h; simp at h
  | cons m ms ih =>
    intro h
    simp only [elemB]
    cases hq : Nat.beq n m with
    | true => rfl
    | false =>
      rcases List.mem_cons.1 h with rfl | h
      · simp at hq
      · simp [ih h]
theorem meetB_of {n : Nat} {xs ys : List Nat} (h1 : n ∈ xs) (h2 : n ∈ ys) : meetB xs ys = true := List.any_eq_true.2 ⟨n, h1, elemB_of h2⟩

theorem ancFrom_spec : ∀ (rest : List Oper) (acc : List (List Nat)), (∃ l, ancFrom acc rest = acc ++ l) ∧
    ∀ i o a, rest[i]? = some o → a ∈ (ancFrom acc rest).getD (acc.length + i) [] → ∃ e, e ∈ o.after ∧ Region.binds .any e = true ∧ (a = e.on ∨ a ∈ (ancFrom acc rest).getD e.on []) := by
  intro rest
  induction rest with
  | nil => exact fun acc => ⟨⟨[], by simp [ancFrom]⟩, fun i o a hi => by simp at hi⟩
  | cons o rest ih =>
    intro acc
    obtain ⟨⟨l, hl⟩, h2⟩ := ih (acc ++ [o.after.toList.flatMap fun e => cond (Region.binds .any e) (e.on :: acc.getD e.on []) []])
    refine ⟨⟨_, by rw [ancFrom, hl, List.append_assoc]⟩, fun i o' a hi ha => ?_⟩
    cases i with
    | zero =>
      simp only [List.getElem?_cons_zero, Option.some.injEq] at hi
      subst hi
      rw [ancFrom, hl] at ha
      have e0 : (acc ++ [o.after.toList.flatMap fun e => cond (Region.binds .any e) (e.on :: acc.getD e.on []) []] ++ l).getD (acc.length + 0) [] = o.after.toList.flatMap fun e => cond (Region.binds .any e) (e.on :: acc.getD e.on []) [] := by
        simp [List.getD_eq_getElem?_getD]
      rw [e0] at ha
      obtain ⟨e, he, hb⟩ := List.mem_flatMap.1 ha
      cases hbd : Region.binds .any e with
      | false => rw [hbd] at hb; simp at hb
      | true =>
        rw [hbd] at hb
        simp only [cond_true, List.mem_cons] at hb
        refine ⟨e, by simpa using he, hbd, hb.imp id fun hb => ?_⟩
        rw [ancFrom, hl]
        by_cases hlt : e.on < acc.length
        · rw [List.append_assoc, List.getD_eq_getElem?_getD, List.getElem?_append_left hlt, ← List.getD_eq_getElem?_getD]; exact hb
        · rw [List.getD_eq_getElem?_getD, List.getElem?_eq_none (by omega)] at hb
          simp at hb
    | succ i =>
      rw [ancFrom] at ha ⊢
      exact h2 i o' a (by simpa using hi) (by simpa [Nat.add_assoc, Nat.add_comm 1 i] using ha)

theorem backB_spec : ∀ (rest : List Oper) (j : Nat), backB j rest = true → ∀ i o e, rest[i]? = some o → e ∈ o.after → Region.binds .any e = true → e.on < j + i := by
  intro rest
  induction rest with
  | nil => exact fun j _ i o e hi => by simp at hi
  | cons o rest ih =>
    intro j hb i o' e hi he hbd
    simp only [backB, Bool.and_eq_true] at hb
    cases i with
    | zero =>
      simp only [List.getElem?_cons_zero, Option.some.injEq] at hi
      subst hi
      have := allB_spec hb.1 e (by simpa using he)
      simpa [hbd] using this
    | succ i =>
      have := ih (j + 1) hb.2 i o' e (by simpa using hi) he hbd
      omega

theorem pairsB_spec {all : List Oper} {anc : List (List Nat)} : ∀ (rest : List Oper) (j : Nat), pairsB all anc j rest = true → ∀ k o, rest[k]? = some o → ∀ i, i < j + k → pairB all (all.getD i default) o = true → i ∈ anc.getD (j + k) [] := by
  intro rest
  induction rest with
  | nil => exact fun j _ k o hk => by simp at hk
  | cons o rest ih =>
    intro j hb k o' hk i hi hp
    simp only [pairsB, Bool.and_eq_true] at hb
    cases k with
    | zero =>
      simp only [List.getElem?_cons_zero, Option.some.injEq] at hk
      subst hk
      have := allB_spec hb.1 i (by simpa using hi)
      rw [hp] at this
      exact elemB_spec (by simpa using this)
    | succ k =>
      have := ih (j + 1) hb.2 k o' (by simpa using hk) i (by omega) hp
      simpa [Nat.add_assoc, Nat.add_comm 1 k] using this

/-- Operations that stand in order. -/
structure Ordered (ops : Array Oper) (anc : Nat → Nat → Prop) : Prop where
  back : ∀ i o e, ops[i]? = some o → e ∈ o.after → Region.binds .any e = true → e.on < i
  step : ∀ i o a, ops[i]? = some o → anc i a → ∃ e, e ∈ o.after ∧ Region.binds .any e = true ∧ (a = e.on ∨ anc e.on a)
  pair : ∀ i j oi oj, i < j → ops[i]? = some oi → ops[j]? = some oj → pairB ops.toList oi oj = true → anc j i

theorem drawOk_spec {ops : Array Oper} (h : drawOk ops.toList = true) : Ordered ops fun j i => i ∈ (ancFrom [] ops.toList).getD j [] := by
  simp only [drawOk, Bool.and_eq_true] at h
  refine ⟨fun i o e hi he hb => ?_, fun i o a hi ha => ?_, fun i j oi oj hij hi hj hp => ?_⟩
  · have := backB_spec _ _ h.1 i o e (by simpa using hi) he hb
    omega
  · have := (ancFrom_spec ops.toList []).2 i o a (by simpa using hi) (by simpa using ha)
    exact this
  · have := pairsB_spec _ _ h.2 j oj (by simpa using hj) i (by omega) (by
      have : ops.toList.getD i default = oi := by simp [List.getD_eq_getElem?_getD, hi]
      rw [this]; exact hp)
    simpa using this

theorem closed_anc {ops : Array Oper} {anc : Nat → Nat → Prop} (hO : Ordered ops anc) {L : Nat → Bool} (hc : ∀ i o, ops[i]? = some o → L i = true → ∀ e, e ∈ o.after → Region.binds .any e = true → L e.on = true) :
    ∀ j o, ops[j]? = some o → (∀ e, e ∈ o.after → Region.binds .any e = true → L e.on = true) → ∀ a, anc j a → L a = true := by
  intro j
  induction j using Nat.strongRecOn with
  | _ j ih =>
    intro o ho hd a ha
    obtain ⟨e, he, hb, h⟩ := hO.step j o a ho ha
    have hlt := hO.back j o e ho he hb
    rcases h with rfl | h
    · exact hd e he hb
    · have hj : j < ops.size := (Array.getElem?_eq_some_iff.1 ho).1
      have ho' : ops[e.on]? = some ops[e.on] := by simp [show e.on < ops.size by omega]
      exact ih e.on hlt _ ho' (hc _ _ ho' (hd e he hb)) a h

variable {P : Program} {ro : Nat}

theorem Oper.wp_exists {o : Oper} {a : Act} {w : World} {next : Act → World → Prop} (h : o.wp P a w next fun _ _ _ => False) : ∃ a' w', next a' w' := by
  unfold Oper.wp at h
  generalize (execOp a.eval o).run P w = res at h
  cases res with
  | ok n w' =>
    cases n <;> simp only [Oper.upon] at h
    case value v => exact ⟨_, _, h⟩
    case skip => exact ⟨_, _, h⟩
    case defer d => exact ⟨_, _, h⟩
    case enter f args =>
      obtain ⟨e, w'', fr, hR, _⟩ := h []
      cases e with
      | returned v => exact ⟨_, _, hR⟩
      | panicked c => exact hR.elim
      | outgrown => obtain ⟨_, _, hf⟩ := hR; exact hf.elim
    case row row args =>
      obtain ⟨v, w'', hR, _⟩ := h default []
      exact ⟨_, _, hR⟩
  | halt x w' =>
    cases x <;> simp only [Oper.upon] at h

/-- Nothing that is there is written: whatever it lies on. -/
theorem HR.quiet {h : Heap} {μ : LMap} {w : World} (H : HR ro h μ w) : HR h.length h μ w :=
  ⟨H.nil_, H.at_, fun b b' k base room base' room' h1 h2 => by have := has_lt h2; omega, H.scope, Nat.le_refl _⟩

theorem raw_has {h h' : Heap} {b : Key} (hb : h'[b.b]? = h[b.b]?) : has h' b ↔ has h b := by unfold has; rw [blk_congr rfl hb]

theorem HR.unquiet {h h' : Heap} {μ μ' : LMap} {w w' : World} (H : HR ro h μ w) (H' : HR h.length h' μ' w') (E : Ext h.length h μ w h' μ' w') : HR ro h' μ' w' := by
  have hold : ∀ {b : Key}, b.b < h.length → (has h' b ↔ has h b) ∧ μ' b = μ b := fun {b} hb => ⟨raw_has (E.rob b.b hb hb).1, (E.rob b.b hb hb).2 b.r⟩
  refine ⟨H'.nil_, H'.at_, fun b b' k base room base' room' h1 h2 h3 h4 h5 => ?_, H'.scope, Nat.le_trans H.rol E.len⟩
  by_cases hb : b.b < h.length
  · by_cases hb' : b'.b < h.length
    · rw [(hold hb).2] at h5
      rw [(hold hb').2]
      exact H.inj b b' k base room base' room' h1 ((hold hb).1.1 h2) ((hold hb').1.1 h3) h4 h5
    · intro h6
      exact H'.inj b' b k base' room' base room (by omega) h3 h2 (Ne.symm h4) h6 h5
  · exact H'.inj b b' k base room base' room' (by omega) h2 h3 h4 h5

theorem Ext.unquiet {h h' : Heap} {μ μ' : LMap} {w w' : World} (hro : ro ≤ h.length) (E : Ext h.length h μ w h' μ' w') : Ext ro h μ w h' μ' w' :=
  ⟨E.le, E.os, E.tape, E.output, E.size, E.len, fun k hk _ => E.frame k hk fun b base room h1 h2 => by have := has_lt h2; omega, fun b h1 h2 => E.rob b h2 h2, fun b k base room h1 h2 => by
    rcases E.moved b k base room h1 h2 with ⟨b2, base2, room2, q1, q2, q3⟩ | q
    · refine .inl ⟨b2, base2, room2, q1, q2, q3.imp (fun e => ?_) id⟩
      have := has_lt q1
      omega
    · exact .inr q, E.froz⟩

theorem Ext.grows {h h' : Heap} {μ μ' : LMap} {w w' : World} (E : Ext h.length h μ w h' μ' w') : h <+: h' := by
  rw [List.prefix_iff_getElem?]
  intro i hi
  rw [(E.rob i hi hi).1, List.getElem?_eq_getElem hi]

theorem prefix_get {h h' : Heap} (hp : h <+: h') {b : Nat} (hb : b < h.length) : h'[b]? = h[b]? := by
  obtain ⟨l, rfl⟩ := hp
  rw [List.getElem?_append_left hb]
theorem prefix_len {h h' : Heap} (hp : h <+: h') : h.length ≤ h'.length := hp.length_le
theorem prefix_blk {h h' : Heap} (hp : h <+: h') {b : Key} (hb : b.b < h.length) : blk? h' b = blk? h b := blk_congr rfl (prefix_get hp hb)
theorem prefix_has {h h' : Heap} (hp : h <+: h') {b : Key} (hb : has h b) : has h' b := by
  have := has_lt hb
  obtain ⟨ss, hb⟩ := hb
  exact ⟨ss, by rw [prefix_blk hp this]; exact hb⟩

theorem segLenAt_prefix {h h' : Heap} (hp : h <+: h') {b : Key} {s L : Nat} (hl : segLenAt h b s = some L) : segLenAt h' b s = some L := by
  unfold segLenAt at *
  rw [prefix_blk hp (segLenAt_lt hl)]
  exact hl
theorem segOff_prefix {h h' : Heap} (hp : h <+: h') {b : Key} {s L : Nat} (hl : segLenAt h b s = some L) : segOff h' b s = segOff h b s := by
  unfold segOff
  rw [blkD_same (segLenAt_has hl) (prefix_blk hp (segLenAt_lt hl))]

/-- What is known in a longer heap is known in the part that it speaks of. -/
theorem VR.restrict {h h' : Heap} (hp : h <+: h') {μ : LMap} {v : AV} {c : Value} (hv : VR h' μ v c) (hs : Scoped h v) : VR h μ v c := by
  induction hv with
  | undef c => exact .undef c
  | bool b => exact .bool b
  | int k n h => exact .int k n h
  | str s => exact .str s
  | nils => exact .nils
  | ptr p a L hl hn hf =>
    cases hs with | ptr _ L' g1 g2 =>
    have := segLenAt_prefix hp g1
    rw [hl] at this
    cases this
    exact .ptr p a L g1 g2 fun e => by rw [← segOff_prefix hp g1]; exact hf e
  | rptr p c a L hl hn hf =>
    cases hs with | rptr _ _ L' g1 g2 =>
    have := segLenAt_prefix hp g1
    rw [hl] at this
    cases this
    exact .rptr p c a L g1 g2 fun e => by rw [← segOff_prefix hp g1]; exact hf e
  | slice p len cap es ex a cap' L hl hn hlc hf =>
    cases hs with | slice _ _ _ _ _ L' g1 g2 =>
    have := segLenAt_prefix hp g1
    rw [hl] at this
    cases this
    exact .slice p len cap es ex a cap' L g1 g2 hlc fun e => by rw [← segOff_prefix hp g1]; exact hf e
  | func f caps cs h1 _ ih => cases hs with | func _ _ q => exact .func f caps cs h1 fun i => ih i (q i)
  | agg ss cs h1 _ ih => cases hs with | agg _ q => exact .agg ss cs h1 fun i => ih i (q i)
  | tuple vs cs h1 _ ih => cases hs with | tuple _ q => exact .tuple vs cs h1 fun i => ih i (q i)

theorem HR.restrict {h h' : Heap} (hp : h <+: h') (hs : ScopedH h) {μ : LMap} {w : World} (H : HR ro h' μ w) (hro : ro ≤ h.length) : HR ro h μ w := by
  have hget : ∀ {b : Key} {ss : Blk}, blk? h b = some ss → blk? h' b = some ss := fun hb => by rw [prefix_blk hp (has_lt ⟨_, hb⟩)]; exact hb
  refine ⟨fun b ss hb hm => H.nil_ b ss (hget hb) hm, fun b ss k base room hb hm => ?_, fun b b' k base room base' room' h1 h2 h3 => H.inj b b' k base room base' room' h1 (prefix_has hp h2) (prefix_has hp h3), hs, hro⟩
  obtain ⟨q1, q2, q3, q4⟩ := H.at_ b ss k base room (hget hb) hm
  refine ⟨q1, q2, q3, fun i v hv => ?_⟩
  obtain ⟨c, e1, e2, e3⟩ := q4 i v hv
  exact ⟨c, e1, e2, e3.restrict hp (hs b ss hb i v hv)⟩

/-- One map before some block, another one from there on. -/
def cutMap (n : Nat) (μ μ' : LMap) : LMap := fun b => if b.b < n then μ b else μ' b
theorem cutMap_lt {n : Nat} {b : Key} {μ μ' : LMap} (h : b.b < n) : cutMap n μ μ' b = μ b := if_pos h
theorem cutMap_ge {n : Nat} {b : Key} {μ μ' : LMap} (h : n ≤ b.b) : cutMap n μ μ' b = μ' b := if_neg (by omega)

theorem Le.grows {h h' : Heap} (hp : h <+: h') {μ μ' : LMap} (hm : ∀ b : Key, b.b < h.length → μ b ≠ .absent → μ' b = μ b) : Le h μ h' μ' :=
  ⟨fun b _ L hl => ⟨L, segLenAt_prefix hp hl, Nat.le_refl _, fun _ => ⟨segOff_prefix hp hl, hm b (segLenAt_lt hl)⟩⟩⟩

/-- Blocks that are to come are nowhere yet. -/
theorem HR.extend {h h' : Heap} (hp : h <+: h') (hs : ScopedH h') {μ : LMap} {w : World} (H : HR ro h μ w) :
    HR ro h' (cutMap h.length μ fun _ => .absent) w ∧ Ext ro h μ w h' (cutMap h.length μ fun _ => .absent) w := by
  have hle : Le h μ h' (cutMap h.length μ fun _ => .absent) := .grows hp fun b hb _ => cutMap_lt hb
  have hcase : ∀ {b : Key}, cutMap h.length μ (fun _ => .absent) b ≠ .absent → b.b < h.length ∧ cutMap h.length μ (fun _ => .absent) b = μ b := by
    intro b hb
    by_cases hlt : b.b < h.length
    · exact ⟨hlt, cutMap_lt hlt⟩
    · rw [cutMap_ge (by omega)] at hb; exact absurd rfl hb
  have hh : ∀ {b : Key}, b.b < h.length → has h' b → has h b := fun hlt ⟨ss, hb⟩ => ⟨ss, by rw [← prefix_blk hp hlt]; exact hb⟩
  refine ⟨⟨fun b ss hb hm => ?_, fun b ss k base room hb hm => ?_, fun b b' k base room base' room' h1 h2 h3 h4 h5 h6 => ?_, hs, Nat.le_trans H.rol (prefix_len hp)⟩, hle, rfl, rfl, rfl, Nat.le_refl _, prefix_len hp, fun _ _ _ => rfl, fun b h1 h2 => ⟨prefix_get hp h2, fun r => cutMap_lt h2⟩, fun b k base room h1 h2 => ?_, fun _ => rfl⟩
  · obtain ⟨hlt, e⟩ := hcase (b := b) (by rw [hm]; simp)
    rw [e] at hm
    exact H.nil_ b ss (by rw [← prefix_blk hp hlt]; exact hb) hm
  · obtain ⟨hlt, e⟩ := hcase (b := b) (by rw [hm]; simp)
    rw [e] at hm
    obtain ⟨q1, q2, q3, q4⟩ := H.at_ b ss k base room (by rw [← prefix_blk hp hlt]; exact hb) hm
    refine ⟨q1, q2, q3, fun i v hv => ?_⟩
    obtain ⟨c, e1, e2, e3⟩ := q4 i v hv
    exact ⟨c, e1, e2, e3.mono hle⟩
  · obtain ⟨g1, e1⟩ := hcase (b := b) (by rw [h5]; simp)
    obtain ⟨g2, e2⟩ := hcase (b := b') (by rw [h6]; simp)
    rw [e1] at h5
    rw [e2] at h6
    exact H.inj b b' k base room base' room' h1 (hh g1 h2) (hh g2 h3) h4 h5 h6
  · obtain ⟨g1, e1⟩ := hcase (b := b) (by rw [h2]; simp)
    rw [e1] at h2
    exact .inl ⟨b, base, room, hh g1 h1, h2, .inr rfl⟩

/-- A quiet step in a part of the heap, some of whose later blocks are there and some not. -/
theorem quiet_step {h h1 E : Heap} (hp : h <+: h1) (hp1 : h1 <+: E) {μ μ' : LMap} {w w' : World} (H : HR ro E μ w) (hro : ro ≤ h.length) (habs : ∀ b : Key, h.length ≤ b.b → b.b < h1.length → μ b = .absent)
    (H' : HR h.length h1 μ' w') (X : Ext h.length h μ w h1 μ' w') :
    HR ro E (cutMap h1.length μ' μ) w' ∧ Ext ro E μ w E (cutMap h1.length μ' μ) w' ∧ Le h1 μ' E (cutMap h1.length μ' μ) := by
  have hl1 : Le h1 μ' E (cutMap h1.length μ' μ) := .grows hp1 fun b hb _ => cutMap_lt hb
  have hold : ∀ b : Key, b.b < h.length → cutMap h1.length μ' μ b = μ b := fun b hb => by
    rw [cutMap_lt (Nat.lt_of_lt_of_le hb (prefix_len hp))]; exact (X.rob b.b hb hb).2 b.r
  have hcase : ∀ b : Key, cutMap h1.length μ' μ b = μ b ∨ (h.length ≤ b.b ∧ b.b < h1.length ∧ cutMap h1.length μ' μ b = μ' b) := by
    intro b
    by_cases g1 : b.b < h.length
    · exact .inl (hold b g1)
    · by_cases g2 : b.b < h1.length
      · exact .inr ⟨by omega, g2, cutMap_lt g2⟩
      · exact .inl (cutMap_ge (by omega))
  have hl2 : Le E μ E (cutMap h1.length μ' μ) := ⟨fun b _ L hl => ⟨L, hl, Nat.le_refl _, fun _ => ⟨rfl, fun hn => by
    rcases hcase b with e | ⟨g1, g2, _⟩
    · exact e
    · exact absurd (habs b g1 g2) hn⟩⟩⟩
  have hfr : ∀ k, k < w.heap.size → w'.heap[k]? = w.heap[k]? := fun k hk => X.frame k hk fun b _ _ g1 g2 => by have := has_lt g2; omega
  have hin : ∀ {b : Key}, b.b < h1.length → has E b → has h1 b := fun hlt ⟨ss, hb⟩ => ⟨ss, by rw [← prefix_blk hp1 hlt]; exact hb⟩
  have hnew : ∀ b k base room, has E b → h.length ≤ b.b → b.b < h1.length → μ' b = .at k base room → w.heap.size ≤ k := fun b k base room hb g1 g2 hm => by
    rcases X.moved b k base room (hin g2 hb) hm with ⟨b2, _, _, g3, _, g4⟩ | g3
    · have := has_lt g3
      rcases g4 with g4 | rfl <;> omega
    · exact g3
  have hat : ∀ b k base room, has E b → μ b = .at k base room → k < w.heap.size := fun b k base room ⟨ss, hb⟩ hm => (H.at_ b ss k base room hb hm).1
  refine ⟨⟨fun b ss hb hm => ?_, fun b ss k base room hb hm => ?_, fun b b' k base room base' room' g1 g2 g3 g4 g5 g6 => ?_, H.scope, H.rol⟩, ⟨hl2, X.os, X.tape, X.output, X.size, Nat.le_refl _, fun k hk _ => hfr k hk, fun b g1 g2 => ⟨rfl, fun r => ?_⟩, fun b k base room g1 g2 => ?_, X.froz⟩, hl1⟩
  · rcases hcase b with e | ⟨g1, g2, e⟩
    · rw [e] at hm; exact H.nil_ b ss hb hm
    · rw [e] at hm; exact H'.nil_ b ss (by rw [← prefix_blk hp1 g2]; exact hb) hm
  · rcases hcase b with e | ⟨g1, g2, e⟩
    · rw [e] at hm
      obtain ⟨q1, q2, q3, q4⟩ := H.at_ b ss k base room hb hm
      have hh := hfr k q1
      refine ⟨Nat.lt_of_lt_of_le q1 X.size, q2, fun i hi => ?_, fun i v hv => ?_⟩
      · rw [cell_heap (a := ⟨k, base + i, none⟩) hh, frozen_heap (a := ⟨k, base + i, none⟩) hh]; exact q3 i hi
      · obtain ⟨c, e1, e2, e3⟩ := q4 i v hv
        exact ⟨c, by rw [cell_heap (a := ⟨k, base + i, none⟩) hh]; exact e1, e2, e3.mono hl2⟩
    · rw [e] at hm
      obtain ⟨q1, q2, q3, q4⟩ := H'.at_ b ss k base room (by rw [← prefix_blk hp1 g2]; exact hb) hm
      refine ⟨q1, q2, q3, fun i v hv => ?_⟩
      obtain ⟨c, e1, e2, e3⟩ := q4 i v hv
      exact ⟨c, e1, e2, e3.mono hl1⟩
  · rcases hcase b with e | ⟨q1, q2, e⟩
    · rw [e] at g5
      rcases hcase b' with e' | ⟨q3, q4, e'⟩
      · rw [e'] at g6; exact H.inj b b' k base room base' room' g1 g2 g3 g4 g5 g6
      · rw [e'] at g6
        have := hat b k base room g2 g5
        have := hnew b' k base' room' g3 q3 q4 g6
        omega
    · rw [e] at g5
      rcases hcase b' with e' | ⟨q3, q4, e'⟩
      · rw [e'] at g6
        have := hat b' k base' room' g3 g6
        have := hnew b k base room g2 q1 q2 g5
        omega
      · rw [e'] at g6; exact H'.inj b b' k base room base' room' q1 (hin q2 g2) (hin q4 g3) g4 g5 g6
  · exact hold ⟨b, r⟩ (by simp only; omega)
  · rcases hcase b with e | ⟨q1, q2, e⟩
    · rw [e] at g2; exact .inl ⟨b, base, room, g1, g2, .inr rfl⟩
    · rw [e] at g2; exact .inr (hnew b k base room g1 q1 q2 g2)
end
end Go.AM
