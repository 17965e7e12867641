/- A part of a proof about the given program: an abstract machine, what the given functions come to, and plain laws. -/
import Derived.Test.YtijijnfmcmeioaaPRect2
import Derived.Test.YtijijnfmcmeioaaDEmptyRectangles
namespace Go.AM
section
variable {β : Type}
theorem eight {n : Nat} (h2 : 2 ≤ n) (h8 : n ≤ 8) : n = 2 ∨ n = 3 ∨ n = 4 ∨ n = 5 ∨ n = 6 ∨ n = 7 ∨ n = 8 := by omega
theorem other_col {n left k : Nat} (h2 : 2 ≤ n) (h8 : n ≤ 8) (hl : left < n) (hk : 1 ≤ k) (hk2 : k < n) : (((left : Int) + k) % n).toNat ≠ left ∧ (((left : Int) + k) % n).toNat < n := by
  rcases eight h2 h8 with rfl | rfl | rfl | rfl | rfl | rfl | rfl <;> omega
theorem upm_ne {n : Nat} (h2 : 2 ≤ n) (h8 : n ≤ 8) {x : Nat → Int} (hp : PermP 8 n x) (hx : ∀ j, 0 ≤ x j ∧ x j ≤ 255) {left k : Nat} (hl : left < n) (hk : 1 ≤ k) (hk2 : k < n) : 1 ≤ upm n x left (x left) k := by
  obtain ⟨h3, h4⟩ := other_col h2 h8 hl hk hk2
  have h5 := hp.2.1 _ h4
  have h6 := hp.2.1 _ hl
  have h7 := hx (((left : Int) + k) % n).toNat
  have h9 := hx left
  have hne : x (((left : Int) + k) % n).toNat ≠ x left := fun e => h3 (hp.2.2 _ _ h4 hl e)
  unfold upm
  generalize x (((left : Int) + k) % n).toNat = a at *
  generalize x left = b at *
  rcases eight h2 h8 with rfl | rfl | rfl | rfl | rfl | rfl | rfl <;> omega
def insF (n : Nat) (x : Nat → Int) (left : Nat) (b h : Int) (k : Nat) (c : Int) : Int := if 1 ≤ upm n x left b k ∧ upm n x left b k ≤ h - 1 then c + 1 else c
def insB (n : Nat) (x : Nat → Int) (left w : Nat) : Int := iter (insF n x left (x left) (upm n x left (x left) w)) (w - 1) 1 0
theorem insB_emp {n : Nat} (h2 : 2 ≤ n) (h8 : n ≤ 8) {x : Nat → Int} (hp : PermP 8 n x) (hx : ∀ j, 0 ≤ x j ∧ x j ≤ 255) {left w : Nat} (hl : left < n) (hw : 1 ≤ w) (hw2 : w < n) : (insB n x left w == 0) = empB n x left w := by
  have e : empB n x left w = iter (empF n x left (x left) (upm n x left (x left) w)) (w - 1) 1 true := by
    unfold empB
    obtain ⟨v, rfl⟩ : ∃ v, w = v + 1 := ⟨w - 1, by omega⟩
    rw [iter]
    simp [empF]
  rw [e]
  unfold insB
  have := iter_inv (f := fun k (s : Int × Bool) => (insF n x left (x left) (upm n x left (x left) w) k s.1, empF n x left (x left) (upm n x left (x left) w) k s.2)) (n := w) (I := fun k s => 1 ≤ k ∧ 0 ≤ s.1 ∧ (s.1 = 0 ↔ s.2 = true))
    (fun k s hk ⟨h1, h3, h4⟩ => by
      have := upm_ne h2 h8 hp hx hl h1 (show k < n by omega)
      refine ⟨by omega, ?_⟩
      unfold insF empF
      by_cases h : upm n x left (x left) k < upm n x left (x left) w
      · rw [if_pos ⟨this, by omega⟩, if_pos ⟨by omega, h⟩]
        refine ⟨by simp only; omega, ?_⟩
        simp only [Bool.false_eq_true, iff_false]
        omega
      · rw [if_neg (fun h' => h (by omega)), if_neg (fun h' => h h'.2)]
        exact ⟨h3, h4⟩) (w - 1) 1 (0, true) (by omega) ⟨Nat.le_refl _, Int.le_refl _, by simp⟩
  have pair : ∀ (d i : Nat) (s : Int × Bool), iter (fun k (s : Int × Bool) => (insF n x left (x left) (upm n x left (x left) w) k s.1, empF n x left (x left) (upm n x left (x left) w) k s.2)) d i s =
      (iter (insF n x left (x left) (upm n x left (x left) w)) d i s.1, iter (empF n x left (x left) (upm n x left (x left) w)) d i s.2) := by
    intro d
    induction d with
    | zero => intro i s; rfl
    | succ d ih => intro i s; rw [iter, ih]; rfl
  rw [pair] at this
  obtain ⟨_, _, h3⟩ := this
  rw [Bool.eq_iff_iff, beq_iff_eq]
  exact h3
theorem s_l05Inside_val (z : β) {N : Nat} (hN : 8 < N) {n : Nat} (h2 : 2 ≤ n) (h8 : n ≤ 8) {x : Nat → Int} (hp : PermP 8 n x) (hx : ∀ j, 0 ≤ x j ∧ x j ≤ 255) {left w : Nat} (hl : left < n) (hw : 1 ≤ w) (hw2 : w < n) {r : Nat → Int}
    (r0 : r 0 = left) (r1 : r 1 = x left) (r2 : r 2 = w) (r3 : r 3 = upm n x left (x left) w) (k0 : Int → β) : s_l05Inside z N n x r k0 = k0 (insB n x left w) := by
  unfold s_l05Inside insB
  refine up_to (L := fun m k c => s_l05Inside_l0 z N n x r m c (k : Int) k0) (n := w) (out := k0) (f := insF n x left (x left) (upm n x left (x left) w)) (I := fun k c => 0 ≤ c ∧ c ≤ k)
    (fun m k c hk hc => ⟨?_, ?_⟩) (fun m s _ => by simp (disch := omega) only [s_l05Inside_l0, s_l05Inside_l0_s, c_nlt]) (w - 1) N 1 0 (by omega) (by omega) (by omega)
  · have t1 : ((left : Int) + k).tmod n = ((left : Int) + k) % n := tmod_pos (by omega)
    have e1 := emod_bd ((left : Int) + k) (show (0 : Int) < n by omega)
    have e2 := hx (((left : Int) + k) % n).toNat
    have e3 := hx left
    have e4 := hp.2.1 left hl
    have e5 := upm_bd h2 x left (x left) w
    have t2 : (x (((left : Int) + k) % n).toNat - x left + n).tmod n = upm n x left (x left) k := tmod_pos (by omega)
    simp only [s_l05Inside_l0, s_l05Inside_l0_s, c_and, c_not, r0, r1, r2, r3, t1, t2, s_l01In_val, insF]
    by_cases hu : 1 ≤ upm n x left (x left) k ∧ upm n x left (x left) k ≤ upm n x left (x left) w - 1
    · rw [if_pos hu, decide_eq_true hu]
      simp (disch := omega) only [c_lt, c_le, c_blt, c_fits, c_neq, c_true]
      rfl
    · rw [if_neg hu, decide_eq_false hu]
      simp (disch := omega) only [c_lt, c_le, c_blt, c_fits, c_neq, c_false]
      rfl
  · unfold insF; split <;> omega
theorem iter_filterL {γ : Type} (ps : List γ) (t : γ → Bool) (d0 : γ) : ∀ (d i : Nat) (qs : List γ), i + d = ps.length →
    iter (fun i qs => if t (ps.getD i d0) = true then qs ++ [ps.getD i d0] else qs) d i qs = qs ++ (ps.drop i).filter t := by
  intro d
  induction d with
  | zero => intro i qs h; rw [List.drop_eq_nil_of_le (by omega)]; simp [iter]
  | succ d ih =>
    intro i qs h
    have hi : i < ps.length := by omega
    rw [iter, ih (i + 1) _ (by omega), List.drop_eq_getElem_cons hi]
    have e : ps.getD i d0 = ps[i] := by simp [List.getD_eq_getElem?_getD, hi]
    rw [e]
    by_cases ht : t ps[i] = true
    · rw [if_pos ht, List.filter_cons_of_pos ht, List.append_assoc]; rfl
    · rw [if_neg ht, List.filter_cons_of_neg ht]
theorem s_l05Empty_val (z : β) {N : Nat} (hN : 100 < N) {n : Nat} {X O x : Nat → Int} (h2 : 2 ≤ n) (h8 : n ≤ 8) (hX : ∀ j, 0 ≤ X j ∧ X j ≤ 255) (hO : ∀ j, 0 ≤ O j ∧ O j ≤ 255) (hx : ∀ j, 0 ≤ x j ∧ x j ≤ 255) (hp : PermP 8 n x) (k0 : Nat → Nat → Nat → List Int → β) :
    s_l05Empty z N n X O x k0 = k0 (rectsL n X O x (empB n x)).length ((rectsL n X O x (empB n x)).length / 6) ((rectsL n X O x (empB n x)).length / 6) (rectsL n X O x (empB n x)) := by
  unfold s_l05Empty
  rw [s_l05Rects_val z (by omega) h2 h8 hX hO hx hp]
  have hall : (prs n).filter (fun _ => true) = prs n := List.filter_eq_self.2 fun _ _ => rfl
  rw [rectsL_eq n X O x fun _ _ => true, hall, rectsL_eq, recs_6, recs_6]
  have hpl := prs_len n h8
  have hrl := recs_len n X O x (prs n)
  have hmem : ∀ i, i < (prs n).length → ((prs n)[i]? = some ((prs n).getD i (0, 0))) := fun i hi => by simp [List.getD_eq_getElem?_getD, hi]
  refine (up_to (L := fun m i (qs : List (Nat × Nat)) => s_l05Empty_l0 z N (recs n X O x (prs n)).length (prs n).length (prs n).length n X O x (recs n X O x (prs n)) m (recs n X O x qs).length qs.length qs.length (i : Int) (recs n X O x qs) k0) (n := (prs n).length) (out := fun qs => k0 (recs n X O x qs).length qs.length qs.length (recs n X O x qs))
    (f := fun i qs => if (fun p : Nat × Nat => empB n x p.1 p.2) ((prs n).getD i (0, 0)) = true then qs ++ [(prs n).getD i (0, 0)] else qs) (I := fun i qs => qs.length ≤ i)
    (fun m i qs hi hq => ⟨?_, ?_⟩) (fun m s _ => by simp (disch := omega) only [s_l05Empty_l0, s_l05Empty_l0_s, c_nlt, c_ble]) (prs n).length N 0 [] (by omega) (by omega) (Nat.le_refl _)).trans ?_
  · have hg := hmem i hi
    generalize (prs n).getD i (0, 0) = p at *
    obtain ⟨m1, m2, m3⟩ := prs_mem (List.mem_of_getElem? hg)
    have hr : ∀ j, j < 6 → (recs n X O x (prs n))[i * 6 + j]?.getD 0 = (rectL n X O x p.1 p.2)[j]?.getD 0 := fun j hj => by rw [recs_get n X O x _ i p hg j hj]
    have hmap : List.map (fun j => (recs n X O x (prs n))[addO (i * 6) j]?.getD 0) (List.range 6) = rectL n X O x p.1 p.2 := by
      rw [map6]
      simp only [addO_eq, hr 0 (by omega), hr 1 (by omega), hr 2 (by omega), hr 3 (by omega), hr 4 (by omega), hr 5 (by omega)]
      rfl
    have hins : ∀ kk : Int → β, s_l05Inside z N n x (fun j => (recs n X O x (prs n))[addO (i * 6) j]?.getD 0) kk = kk (insB n x p.1 p.2) := fun kk =>
      s_l05Inside_val z (by omega) h2 h8 hp hx m1 m2 m3 (by simp only [addO_eq, hr 0 (by omega)]; rfl) (by simp only [addO_eq, hr 1 (by omega)]; rfl) (by simp only [addO_eq, hr 2 (by omega)]; rfl) (by simp only [addO_eq, hr 3 (by omega)]; rfl) kk
    have hie := insB_emp h2 h8 hp hx m1 m2 m3
    have hrq := recs_len n X O x qs
    have hrq1 : (recs n X O x qs ++ rectL n X O x p.1 p.2) = recs n X O x (qs ++ [p]) := by rw [recs_append]; simp [recs]
    simp only [s_l05Empty_l0, s_l05Empty_l0_s, c_and, Int.toNat_natCast, hins, hie, hmap, c_true]
    simp (disch := omega) only [c_lt, c_le, c_ble, c_beq, c_fits]
    by_cases hE : empB n x p.1 p.2 = true
    · have : (qs ++ [p]).length = qs.length + 1 := by simp
      rw [if_pos hE, hE, this]
      simp (disch := omega) only [c_true, c_nble, c_ble, c_beq, c_fits, hrq1]
      rfl
    · rw [if_neg hE, show empB n x p.1 p.2 = false by simpa using hE]
      simp (disch := omega) only [c_false, c_fits]
      rfl
  · split
    · simp; omega
    · omega
  · rw [iter_filterL (prs n) (fun p => empB n x p.1 p.2) (0, 0) _ 0 [] (by omega)]
    rfl
end
end Go.AM
