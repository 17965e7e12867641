/- A part of a proof about the given program: an abstract machine, what the given functions come to, and plain laws. -/
import Derived.Test.YtkboldcnkkolkaaPPlacesS
namespace Go.AM
section
variable {β : Type}
def getP (h : Nat → Int) (j x : Nat) : Nat := (h (j * 4 + x)).toNat
structure Lists (K M : Nat) (h : Nat → Int) : Prop where
  lo : 1 ≤ K
  hi : K ≤ 4
  val : ∀ j x, j < M → x < K → h (j * 4 + x) = (getP h j x : Int) ∧ getP h j x < K
def Closed (K M : Nat) (h : Nat → Int) (s : Nat → Bool) : Prop := s 0 = true ∧ ∀ x, x < K → s x = true → ∀ j, j < M → s (getP h j x) = true
def ReachP (K M : Nat) (h : Nat → Int) (y : Nat) : Prop := ∀ s, Closed K M h s → s y = true
def cnt4 (s : Nat → Bool) : Nat := (s 0).toNat + (s 1).toNat + (s 2).toNat + (s 3).toNat
theorem cnt4_le (s : Nat → Bool) : cnt4 s ≤ 4 := by
  unfold cnt4
  have := fun b : Bool => Bool.toNat_le b
  have a := this (s 0); have b := this (s 1); have c := this (s 2); have d := this (s 3)
  omega
theorem cnt4_upd (s : Nat → Bool) (y : Nat) (hy : y < 4) (hs : s y = false) : cnt4 (upd s y true) = cnt4 s + 1 := by
  have : y = 0 ∨ y = 1 ∨ y = 2 ∨ y = 3 := by omega
  unfold cnt4
  simp only [upd_at]
  rcases this with rfl | rfl | rfl | rfl <;> rw [hs] <;> simp <;> omega
theorem reach_lt {K M : Nat} {h : Nat → Int} (L : Lists K M h) {y : Nat} (hr : ReachP K M h y) : y < K := by
  have := hr (fun y => decide (y < K)) ⟨by simp; exact L.lo, fun x hx _ j hj => by simpa using (L.val j x hj hx).2⟩
  simpa using this
theorem reach_0 {K M : Nat} {h : Nat → Int} : ReachP K M h 0 := fun s hs => hs.1
theorem reach_next {K M : Nat} {h : Nat → Int} {x j : Nat} (hx : x < K) (hr : ReachP K M h x) (hj : j < M) : ReachP K M h (getP h j x) := fun s hs => hs.2 x hx (hr s hs) j hj

/-- What holds of the queue and of the marks. -/
structure QInv (K M : Nat) (h : Nat → Int) (i j : Nat) (q : List Int) (s : Nat → Bool) : Prop where
  len : q.length = cnt4 s
  ent : ∀ (idx : Nat) (v : Int), q[idx]? = some v → ∃ y : Nat, v = y ∧ y < K ∧ s y = true
  mem : ∀ y, s y = true → y < K ∧ ReachP K M h y ∧ ∃ idx : Nat, q[idx]? = some (y : Int)
  zero : s 0 = true
  done : ∀ (idx y j' : Nat), q[idx]? = some (y : Int) → (idx < i ∧ j' < M ∨ idx = i ∧ j' < j) → s (getP h j' y) = true
theorem QInv.same {K M : Nat} {h : Nat → Int} {i j y : Nat} {q : List Int} {s : Nat → Bool} (I : QInv K M h i j q s) (hy : q[i]? = some (y : Int)) (ht : s (getP h j y) = true) : QInv K M h i (j + 1) q s :=
  ⟨I.len, I.ent, I.mem, I.zero, fun idx y' j' h1 h2 => by
    by_cases e : idx = i ∧ j' = j
    · obtain ⟨rfl, rfl⟩ := e
      rw [hy] at h1
      simp only [Option.some.injEq] at h1
      have : y = y' := by omega
      rw [← this]
      exact ht
    · exact I.done idx y' j' h1 (by omega)⟩
theorem QInv.grow {K M : Nat} {h : Nat → Int} (L : Lists K M h) {i j y : Nat} {q : List Int} {s : Nat → Bool} (I : QInv K M h i j q s) (hi : i < q.length) (hj : j < M) (hy : q[i]? = some (y : Int)) (ht : s (getP h j y) = false) :
    QInv K M h i (j + 1) (q ++ [(getP h j y : Int)]) (upd s (getP h j y) true) := by
  obtain ⟨y', e1, e2, e3⟩ := I.ent i _ hy
  have : y = y' := by omega
  subst this
  obtain ⟨f1, f2⟩ := L.val j y hj e2
  have hr := reach_next e2 (I.mem y e3).2.1 hj
  have h8 := L.hi
  have hmono : ∀ x, s x = true → upd s (getP h j y) true x = true := fun x hx => by rw [upd_at]; split <;> simp_all
  refine ⟨?_, fun idx v hv => ?_, fun x hx => ?_, hmono _ I.zero, fun idx y' j' h1 h2 => ?_⟩
  · rw [cnt4_upd _ _ (by omega) ht, List.length_append, I.len]
    rfl
  · rcases Nat.lt_or_ge idx q.length with hlt | hge
    · rw [List.getElem?_append_left hlt] at hv
      obtain ⟨y', g1, g2, g3⟩ := I.ent idx v hv
      exact ⟨y', g1, g2, hmono _ g3⟩
    · rw [List.getElem?_append_right hge] at hv
      have : idx - q.length = 0 := by
        rcases Nat.eq_zero_or_pos (idx - q.length) with h | h
        · exact h
        · rw [List.getElem?_eq_none (by simp; omega)] at hv; cases hv
      rw [this] at hv
      simp only [List.getElem?_cons_zero, Option.some.injEq] at hv
      exact ⟨getP h j y, hv.symm, f2, by rw [upd_at]; simp⟩
  · rw [upd_at] at hx
    split at hx
    · rename_i e
      subst e
      exact ⟨f2, hr, q.length, by simp⟩
    · obtain ⟨g1, g2, idx, g3⟩ := I.mem x hx
      refine ⟨g1, g2, idx, ?_⟩
      rw [List.getElem?_append_left (List.getElem?_eq_some_iff.1 g3).1]
      exact g3
  · rcases Nat.lt_or_ge idx q.length with hlt | hge
    · rw [List.getElem?_append_left hlt] at h1
      by_cases e : idx = i ∧ j' = j
      · obtain ⟨rfl, rfl⟩ := e
        rw [hy] at h1
        simp only [Option.some.injEq] at h1
        have : y = y' := by omega
        rw [upd_at, if_pos (by rw [this])]
      · exact hmono _ (I.done idx y' j' h1 (by omega))
    · omega
theorem inner_val (z : β) {K M c N : Nat} {h : Nat → Int} (L : Lists K M h) (hM : M ≤ 1048576) (hN : 1048576 < N) {i : Nat} {q : List Int} {s : Nat → Bool} (I : QInv K M h i 0 q s) (hi : i < q.length) (k0 : Nat → Nat → Nat → List Int → (Nat → Bool) → β) :
    ∃ q' s', s_l08Reaches_l1 z K (M * 4) M c i (M * 4) h N q.length q.length q.length 0 q s k0 = k0 q'.length q'.length q'.length q' s' ∧ QInv K M h i M q' s' ∧ i < q'.length := by
  refine Exists.elim (up_to_ex (L := fun m j (p : List Int × (Nat → Bool)) => s_l08Reaches_l1 z K (M * 4) M c i (M * 4) h m p.1.length p.1.length p.1.length (j : Int) p.1 p.2 k0) (n := M)
    (out := fun p => k0 p.1.length p.1.length p.1.length p.1 p.2) (I := fun j p => QInv K M h i j p.1 p.2 ∧ i < p.1.length) (fun j p hj hp => ?_) (fun m p _ => ?_) M N 0 (q, s) (by omega) (by omega) ⟨I, hi⟩) fun p hp => ⟨p.1, p.2, hp.1, hp.2.1, hp.2.2⟩
  · obtain ⟨q, s⟩ := p
    obtain ⟨I, hi⟩ := hp
    simp only at I hi ⊢
    have hq : q[i]? = some q[i] := List.getElem?_eq_getElem hi
    obtain ⟨y, e1, e2, e3⟩ := I.ent i _ hq
    rw [e1] at hq
    obtain ⟨f1, f2⟩ := L.val j y hj e2
    have h8 := L.hi
    have hl : q.length ≤ 4 := by rw [I.len]; exact cnt4_le s
    have hg : q[i]?.getD 0 = (y : Int) := by rw [hq]; rfl
    cases ht : s (getP h j y) with
    | true =>
      refine ⟨(q, s), fun m => ?_, I.same hq ht, hi⟩
      simp only [s_l08Reaches_l1, s_l08Reaches_l1_s, c_and, Int.toNat_natCast, hg, addO_eq, f1, ht, Bool.not_true, c_false]
      simp (disch := omega) only [c_lt, c_le, c_blt, c_ble, c_beq, c_fits]
      rfl
    | false =>
      refine ⟨(q ++ [(getP h j y : Int)], upd s (getP h j y) true), fun m => ?_, I.grow L hi hj hq ht, by simp; omega⟩
      simp only [s_l08Reaches_l1, s_l08Reaches_l1_s, c_and, Int.toNat_natCast, hg, addO_eq, f1, ht, Bool.not_false, c_true]
      simp (disch := omega) only [c_lt, c_le, c_blt, c_ble, c_nble, c_beq, c_fits]
      have : fromTo (List.set (List.replicate 1 0) 0 (getP h j y : Int)) 0 1 = [(getP h j y : Int)] := rfl
      rw [this]
      simp only [List.length_append, List.length_cons, List.length_nil, Nat.zero_add]
      rfl
  · simp (disch := omega) only [s_l08Reaches_l1, s_l08Reaches_l1_s, c_ble, c_nlt]
theorem outer_val (z : β) {K M c N : Nat} {h : Nat → Int} (L : Lists K M h) (hM : M ≤ 1048576) (hN : 1048576 < N) (k0 : Nat → Nat → Nat → List Int → (Nat → Bool) → β) :
    ∀ (d m i : Nat) (q : List Int) (s : Nat → Bool), 4 ≤ i + d → d < m → QInv K M h i 0 q s → i ≤ q.length →
    ∃ q' s', s_l08Reaches_l0 z N K (M * 4) M c (M * 4) h m q.length q.length q.length i q s k0 = k0 q'.length q'.length q'.length q' s' ∧ QInv K M h q'.length 0 q' s' := by
  intro d
  induction d with
  | zero =>
    intro m i q s hd hm I hi
    obtain ⟨m, rfl⟩ : ∃ m', m = m' + 1 := ⟨m - 1, by omega⟩
    have hl : q.length ≤ 4 := by rw [I.len]; exact cnt4_le s
    have : i = q.length := by omega
    subst this
    refine ⟨q, s, ?_, I⟩
    simp (disch := omega) only [s_l08Reaches_l0, s_l08Reaches_l0_s, c_ble, c_nlt]
  | succ d ih =>
    intro m i q s hd hm I hi
    obtain ⟨m, rfl⟩ : ∃ m', m = m' + 1 := ⟨m - 1, by omega⟩
    have hl : q.length ≤ 4 := by rw [I.len]; exact cnt4_le s
    rcases Nat.lt_or_ge i q.length with hlt | hge
    · obtain ⟨q', s', h1, h2, h3⟩ := inner_val z (c := c) L hM hN I hlt (fun q16 q17 q18 q19 q20 => cond (fits IntKind.i64 ((i : Int) + 1)) (s_l08Reaches_l0 z N K (M * 4) M c (M * 4) h m q16 q17 q18 ((i : Int) + 1) q19 q20 k0) z)
      have I2 : QInv K M h (i + 1) 0 q' s' := ⟨h2.len, h2.ent, h2.mem, h2.zero, fun idx y j' g1 g2 => h2.done idx y j' g1 (by omega)⟩
      obtain ⟨q2, s2, g1, g2⟩ := ih m (i + 1) q' s' (by omega) (by omega) I2 (by omega)
      refine ⟨q2, s2, ?_, g2⟩
      rw [← g1]
      simp (disch := omega) only [s_l08Reaches_l0, s_l08Reaches_l0_s, c_ble, c_lt]
      rw [h1]
      simp (disch := omega) only [c_fits]
      rfl
    · have : i = q.length := by omega
      subst this
      refine ⟨q, s, ?_, I⟩
      simp (disch := omega) only [s_l08Reaches_l0, s_l08Reaches_l0_s, c_ble, c_nlt]
/-- Marks that tell what can be reached. -/
def Tells (K M : Nat) (h : Nat → Int) (s : Nat → Bool) : Prop := ∀ y, s y = true ↔ ReachP K M h y
theorem s_l08Reaches_val (z : β) {K M c N : Nat} {h : Nat → Int} (L : Lists K M h) (hM : M ≤ 1048576) (hN : 1048576 < N) (k : Bool → β) :
    ∃ s, Tells K M h s ∧ s_l08Reaches z N K (M * 4) M c (M * 4) h k = k ((cnt4 s : Int) == K) := by
  have I0 : QInv K M h 0 0 [0] (upd (fun _ => false) 0 true) := by
    refine ⟨rfl, fun idx v hv => ?_, fun y hy => ?_, rfl, fun idx y j' _ h2 => by omega⟩
    · cases idx with
      | zero =>
        simp only [List.getElem?_cons_zero, Option.some.injEq] at hv
        exact ⟨0, hv.symm, L.lo, rfl⟩
      | succ n => simp at hv
    · rw [upd_at] at hy
      split at hy
      · rename_i e
        subst e
        exact ⟨L.lo, reach_0, 0, rfl⟩
      · cases hy
  obtain ⟨q, s, h1, h2⟩ := outer_val z (c := c) L hM hN (fun q9 q10 q11 q12 q13 => cond (q10.ble 9223372036854775807) (k ((q10 : Int) == K)) z) 4 N 0 [0] _ (by omega) (by omega) I0 (Nat.zero_le _)
  refine ⟨s, fun y => ⟨fun hy => (h2.mem y hy).2.1, fun hy => ?_⟩, ?_⟩
  · refine hy s ⟨h2.zero, fun x hx hs j hj => ?_⟩
    obtain ⟨_, _, idx, hidx⟩ := h2.mem x hs
    exact h2.done idx x j hidx (.inl ⟨(List.getElem?_eq_some_iff.1 hidx).1, hj⟩)
  · unfold s_l08Reaches
    refine h1.trans ?_
    have hl : q.length ≤ 4 := by rw [h2.len]; exact cnt4_le s
    simp (disch := omega) only [c_ble]
    rw [h2.len]
end
end Go.AM
