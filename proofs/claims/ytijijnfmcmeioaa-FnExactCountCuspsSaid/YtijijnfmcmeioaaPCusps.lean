/- A part of a proof about the given program: an abstract machine, what the given functions come to, and plain laws. -/
import Derived.Test.YtijijnfmcmeioaaPComp
namespace Go.AM
section
variable {β : Type}
/-- The numbers of a list of records. -/
def recAt (xs : List Int) (j q : Nat) : Int := xs[j * 4 + q]?.getD 0
/-- A round over the corners: those that count with 1 and those with -1. -/
def cuspF (xs : List Int) (skip : Int → Bool) (j : Nat) (s : Int × Int) : Int × Int :=
  if skip (recAt xs j 0) = true ∨ recAt xs j 2 = 1 ∨ recAt xs j 2 = 2 then s else if ((recAt xs j 3 != 0) == (recAt xs j 2 == 3)) = true then (s.1 + 1, s.2) else (s.1, s.2 + 1)
def cuspS (xs : List Int) (skip : Int → Bool) (L : Nat) : Int × Int := iter (cuspF xs skip) L 0 (0, 0)
theorem cuspF_bd {xs : List Int} {skip : Int → Bool} {j : Nat} {s : Int × Int} (h : 0 ≤ s.1 ∧ 0 ≤ s.2 ∧ s.1 + s.2 ≤ j) : 0 ≤ (cuspF xs skip j s).1 ∧ 0 ≤ (cuspF xs skip j s).2 ∧ (cuspF xs skip j s).1 + (cuspF xs skip j s).2 ≤ (j + 1 : Nat) := by
  unfold cuspF
  split
  · omega
  · split <;> simp only <;> omega
theorem cuspS_bd (xs : List Int) (skip : Int → Bool) (L : Nat) : 0 ≤ (cuspS xs skip L).1 ∧ 0 ≤ (cuspS xs skip L).2 ∧ (cuspS xs skip L).1 + (cuspS xs skip L).2 ≤ L := by
  have := iter_inv (f := cuspF xs skip) (n := L) (I := fun i s => 0 ≤ s.1 ∧ 0 ≤ s.2 ∧ s.1 + s.2 ≤ i) (fun i s _ h => cuspF_bd h) L 0 (0, 0) (by omega) (by simp)
  rwa [Nat.zero_add] at this
theorem cornerL_get (n : Nat) (X O : Nat → Int) {i q : Nat} (hi : i < n) (hq : q < 8) : (cornersL n X O)[8 * i + q]?.getD 0 = (cornerL n X O i)[q]?.getD 0 := by
  have := iter_inv (f := fun i l => l ++ cornerL n X O i) (I := fun i (l : List Int) => l.length = 8 * i ∧ ∀ j q, j < i → q < 8 → l[8 * j + q]?.getD 0 = (cornerL n X O j)[q]?.getD 0) (n := n) (fun i s _ h => by
    refine ⟨by rw [List.length_append, cornerL_len]; omega, fun j q hj hq => ?_⟩
    by_cases e : j = i
    · subst e
      rw [List.getElem?_append_right (by omega), h.1, show 8 * j + q - 8 * j = q by omega]
    · rw [List.getElem?_append_left (by omega)]
      exact h.2 j q (by omega) hq) n 0 [] (by omega) ⟨rfl, fun j q hj => by omega⟩
  rw [Nat.zero_add] at this
  exact this.2 i q hi hq
/-- What the records of the corners are. -/
theorem corner_recs {n : Nat} {X O : Nat → Int} (j : Nat) (hj : j < 2 * n) : recAt (cornersL n X O) j 0 = (j / 2 : Nat) ∧ 0 ≤ recAt (cornersL n X O) j 2 ∧ recAt (cornersL n X O) j 2 ≤ 3 := by
  unfold recAt
  have hi : j / 2 < n := by omega
  rcases Nat.mod_two_eq_zero_or_one j with e | e
  · have h0 := cornerL_get n X O hi (q := 0) (by omega)
    have h2 := cornerL_get n X O hi (q := 2) (by omega)
    rw [show j * 4 + 0 = 8 * (j / 2) + 0 by omega, show j * 4 + 2 = 8 * (j / 2) + 2 by omega, h0, h2]
    have := kindI_bd (j / 2 : Nat) (X (j / 2)) (O (j / 2)) (rowOf n O (X (j / 2)).toNat)
    exact ⟨rfl, this.1, this.2⟩
  · have h0 := cornerL_get n X O hi (q := 4) (by omega)
    have h2 := cornerL_get n X O hi (q := 6) (by omega)
    rw [show j * 4 + 0 = 8 * (j / 2) + 4 by omega, show j * 4 + 2 = 8 * (j / 2) + 6 by omega, h0, h2]
    have := kindI_bd (j / 2 : Nat) (O (j / 2)) (X (j / 2)) (rowOf n X (O (j / 2)).toNat)
    exact ⟨rfl, this.1, this.2⟩
/-- Is a column of another component than the one that is asked for? -/
def skipC (which : Nat → Int) (c : Int) (col : Int) : Bool := decide (0 ≤ c) && (which col.toNat != c)
theorem s_l07Cusps_val (z : β) {N : Nat} (hN : 16 < N) {n : Nat} {X O : Nat → Int} (g : GridP n X O) (hX : ∀ j, 0 ≤ X j) (hO : ∀ j, 0 ≤ O j) (c : Int) (k : Int → Int → β) :
    s_l07Cusps z N n X O c k = k (cuspS (cornersL n X O) (skipC (compS (nxtC n X O) n).1 c) (2 * n)).1 (cuspS (cornersL n X O) (skipC (compS (nxtC n X O) n).1 c) (2 * n)).2 := by
  have h8 := g.hi
  unfold s_l07Cusps
  rw [s_l01Components_val z (by omega) g hX hO, s_l07Corners_val z (by omega) g hX hO]
  have hr := corner_recs (n := n) (X := X) (O := O)
  have hl := cornersL_len n X O
  generalize cornersL n X O = xs at *
  generalize (compS (nxtC n X O) n).1 = wh
  refine up_to (L := fun m j s => s_l07Cusps_l0 z c (8 * n) (2 * n) (2 * n) n X O wh xs m s.1 s.2 (j : Int) fun q13 q14 => k q13 q14) (n := 2 * n) (out := fun s => k s.1 s.2) (f := cuspF xs (skipC wh c)) (I := fun i s => 0 ≤ s.1 ∧ 0 ≤ s.2 ∧ s.1 + s.2 ≤ i)
    (fun m j s hj hs => ⟨?_, cuspF_bd hs⟩) (fun m s _ => by simp (disch := omega) only [s_l07Cusps_l0, s_l07Cusps_l0_s, c_ble, c_nlt]) (2 * n) N 0 (0, 0) (by omega) (by omega) (by simp)
  obtain ⟨r0, r1, r2⟩ := hr j hj
  have r0' := r0
  unfold recAt at r0'
  rw [Nat.add_zero] at r0'
  have e2 : xs[j * 4 + 2]?.getD 0 = recAt xs j 2 := rfl
  have e3 : xs[j * 4 + 3]?.getD 0 = recAt xs j 3 := rfl
  simp only [s_l07Cusps_l0, s_l07Cusps_l0_s, c_and, Int.toNat_natCast, addO_eq, Nat.add_zero, r0', e2, e3]
  simp (disch := omega) only [c_lt, c_le, c_ble, c_blt, c_beq, c_fits]
  unfold cuspF skipC
  rw [r0, Int.toNat_natCast]
  by_cases hc : 0 ≤ c
  · rw [c_le hc, decide_eq_true hc, Bool.true_and]
    by_cases hw : wh (j / 2) = c
    · rw [c_nne hw, show (wh (j / 2) != c) = false by simpa using hw]
      by_cases h1 : recAt xs j 2 = 1
      · rw [c_eq h1, if_pos (.inr (.inl h1))]; rfl
      · rw [c_neq h1]
        by_cases h2 : recAt xs j 2 = 2
        · rw [c_eq h2, if_pos (.inr (.inr h2))]; rfl
        · rw [c_neq h2, if_neg (by simp [h1, h2])]
          cases hb : ((recAt xs j 3 != 0) == (recAt xs j 2 == 3)) <;> rfl
    · rw [c_ne hw, show (wh (j / 2) != c) = true by simpa using hw, if_pos (.inl rfl)]; rfl
  · rw [c_nle (by omega), decide_eq_false hc, Bool.false_and]
    by_cases h1 : recAt xs j 2 = 1
    · rw [c_eq h1, if_pos (.inr (.inl h1))]; rfl
    · rw [c_neq h1]
      by_cases h2 : recAt xs j 2 = 2
      · rw [c_eq h2, if_pos (.inr (.inr h2))]; rfl
      · rw [c_neq h2, if_neg (by simp [h1, h2])]
        cases hb : ((recAt xs j 3 != 0) == (recAt xs j 2 == 3)) <;> rfl
/-- What a front comes to. -/
def frontF (xs : List Int) (j : Nat) (h : Nat → Int) : Nat → Int :=
  if recAt xs j 2 = 1 ∨ recAt xs j 2 = 2 then h else if ((recAt xs j 3 != 0) == (recAt xs j 2 == 3)) = true then upd (upd h 0 (h 0 + 1)) 2 (h 2 + 1) else upd (upd h 0 (h 0 + 1)) 1 (h 1 + 1)
theorem frontF_get {xs : List Int} {j : Nat} {h : Nat → Int} {s : Int × Int} (hh : h 0 = s.1 + s.2 ∧ h 1 = s.2 ∧ h 2 = s.1) :
    frontF xs j h 0 = (cuspF xs (fun _ => false) j s).1 + (cuspF xs (fun _ => false) j s).2 ∧ frontF xs j h 1 = (cuspF xs (fun _ => false) j s).2 ∧ frontF xs j h 2 = (cuspF xs (fun _ => false) j s).1 := by
  unfold frontF cuspF
  obtain ⟨h0, h1, h2⟩ := hh
  by_cases e : recAt xs j 2 = 1 ∨ recAt xs j 2 = 2
  · rw [if_pos e, if_pos (.inr e)]; exact ⟨h0, h1, h2⟩
  · have e' : ¬ ((fun _ => false) (recAt xs j 0) = true ∨ recAt xs j 2 = 1 ∨ recAt xs j 2 = 2) := fun h => h.elim (fun h => by cases h) e
    rw [if_neg e, if_neg e']
    cases hb : ((recAt xs j 3 != 0) == (recAt xs j 2 == 3))
    · simp [upd_at, h0, h1, h2]; omega
    · simp [upd_at, h0, h1, h2]; omega
theorem i_front_add_val (z : β) (N : Nat) (a b : Int) {xs : List Int} {j : Nat} {h : Nat → Int} (hk : 0 ≤ recAt xs j 2 ∧ recAt xs j 2 ≤ 3) (hb : ∀ q, q < 3 → 0 ≤ h q ∧ h q ≤ 1000) (k : (Nat → Int) → β) :
    i_front_add z N a b (recAt xs j 2) (recAt xs j 3 != 0) h k = k (frontF xs j h) := by
  have b0 := hb 0 (by omega)
  have b1 := hb 1 (by omega)
  have b2 := hb 2 (by omega)
  have u1 : upd h 0 (h 0 + 1) 1 = h 1 := by simp [upd_at]
  have u2 : upd h 0 (h 0 + 1) 2 = h 2 := by simp [upd_at]
  have f1 : (([] : List UInt8) == [117]) = false := by decide
  have f2 : (([] : List UInt8) == [100]) = false := by decide
  have f3 : (([117] : List UInt8) == [117]) = true := by decide
  have f4 : (([100] : List UInt8) == [117]) = false := by decide
  have f5 : (([100] : List UInt8) == [100]) = true := by decide
  unfold i_front_add i_Corner_letter i_Corner_isCusp frontF
  have hcase : recAt xs j 2 = 0 ∨ recAt xs j 2 = 1 ∨ recAt xs j 2 = 2 ∨ recAt xs j 2 = 3 := by omega
  rcases hcase with e | e | e | e
  · simp only [e, u1, u2]
    cases hx : (recAt xs j 3 != 0) <;> simp [f1, f2, f3, f4, f5, c_fits, b0, b1, b2, fits64]
    all_goals (rw [fits64 (by omega), fits64 (by omega)]; rfl)
  · simp only [e]
    simp [f1, f2]
  · simp only [e]
    simp [f1, f2]
  · simp only [e, u1, u2]
    cases hx : (recAt xs j 3 != 0) <;> simp [f1, f2, f3, f4, f5, c_fits, b0, b1, b2, fits64]
    all_goals (rw [fits64 (by omega), fits64 (by omega)]; rfl)
theorem i_Grid_front_val (z : β) {N : Nat} (hN : 16 < N) {n : Nat} {X O : Nat → Int} (g : GridP n X O) (hX : ∀ j, 0 ≤ X j) (hO : ∀ j, 0 ≤ O j) (k : (Nat → Int) → β) :
    i_Grid_front z N n X O k = k (iter (frontF (cornersL n X O)) (2 * n) 0 fun _ => 0) := by
  have h8 := g.hi
  unfold i_Grid_front
  rw [i_Grid_corners_val z (by omega) g hX hO]
  have hr := corner_recs (n := n) (X := X) (O := O)
  have hl := cornersL_len n X O
  generalize cornersL n X O = xs at *
  rw [c_ble (by omega)]
  refine up_to (L := fun m j h => i_Grid_front_l0 z N (8 * n) (2 * n) (2 * n) ((2 * n : Nat) : Int) n X O (fun _ => 0) xs m (j : Int) h fun q10 => k q10) (n := 2 * n) (out := k) (f := frontF xs)
    (I := fun i h => ∃ s : Int × Int, (0 ≤ s.1 ∧ 0 ≤ s.2 ∧ s.1 + s.2 ≤ i) ∧ h 0 = s.1 + s.2 ∧ h 1 = s.2 ∧ h 2 = s.1)
    (fun m j h hj ⟨s, hs, hh⟩ => ⟨?_, ⟨cuspF xs (fun _ => false) j s, cuspF_bd hs, frontF_get hh⟩⟩) (fun m s _ => by simp (disch := omega) only [i_Grid_front_l0, i_Grid_front_l0_s, c_nlt]) (2 * n) N 0 (fun _ => 0) (by omega) (by omega) ⟨(0, 0), by simp, by simp⟩
  obtain ⟨r0, r1, r2⟩ := hr j hj
  have e2 : xs[j * 4 + 2]?.getD 0 = recAt xs j 2 := rfl
  have e3 : xs[j * 4 + 3]?.getD 0 = recAt xs j 3 := rfl
  have hb : ∀ q, q < 3 → 0 ≤ h q ∧ h q ≤ 1000 := fun q hq => by
    obtain ⟨h0, h1, h2⟩ := hh
    have : q = 0 ∨ q = 1 ∨ q = 2 := by omega
    rcases this with rfl | rfl | rfl <;> omega
  simp only [i_Grid_front_l0, i_Grid_front_l0_s, c_and, Int.toNat_natCast, addO_eq, Nat.add_zero, e2, e3, i_front_add_val z N _ _ ⟨r1, r2⟩ hb]
  simp (disch := omega) only [c_lt, c_le, c_ble, c_blt, c_beq, c_fits]
  rfl
/-- The numbers of a front: cusps, those of the letter u, and those of the letter d. -/
theorem front_cusps (xs : List Int) (L : Nat) : (iter (frontF xs) L 0 fun _ => 0) 0 = (cuspS xs (fun _ => false) L).1 + (cuspS xs (fun _ => false) L).2 ∧ (iter (frontF xs) L 0 fun _ => 0) 1 = (cuspS xs (fun _ => false) L).2 ∧ (iter (frontF xs) L 0 fun _ => 0) 2 = (cuspS xs (fun _ => false) L).1 := by
  have key : ∀ (d i : Nat) (h : Nat → Int) (s : Int × Int), h 0 = s.1 + s.2 ∧ h 1 = s.2 ∧ h 2 = s.1 → iter (frontF xs) d i h 0 = (iter (cuspF xs fun _ => false) d i s).1 + (iter (cuspF xs fun _ => false) d i s).2 ∧ iter (frontF xs) d i h 1 = (iter (cuspF xs fun _ => false) d i s).2 ∧ iter (frontF xs) d i h 2 = (iter (cuspF xs fun _ => false) d i s).1 := by
    intro d
    induction d with
    | zero => exact fun i h s hh => hh
    | succ d ih => exact fun i h s hh => ih (i + 1) _ _ (frontF_get hh)
  exact key L 0 _ (0, 0) (by simp)
theorem skip_neg (wh : Nat → Int) : skipC wh (-1) = fun _ => false := by funext c; simp [skipC]
theorem w_FnExactCountCusps_val (z : β) {N : Nat} (hN : 100 < N) (n : Int) (X O : Nat → Int) (hX : ∀ j, j < 8 → 0 ≤ X j ∧ X j ≤ 255) (hO : ∀ j, j < 8 → 0 ≤ O j ∧ O j ≤ 255) (k0 : Bool → β) : w_FnExactCountCusps z N n X O k0 = k0 true := by
  unfold w_FnExactCountCusps
  have hN8 : 8 < N := by omega
  have hX0 := clip8_nn (a := X) fun j hj => (hX j hj).1
  have hO0 := clip8_nn (a := O) fun j hj => (hO j hj).1
  simp only [w_toGrid_val z hN8, s_CountCusps, i_CountCusps, i_whole_int64_v1, i_CountCusps_1, s_l01Is_val z hN8 _ _ _ hX0 hO0, i_IsGrid_val z hN8 _ _ _ hX0 hO0]
  cases hg : gridB n (clip8 X) (clip8 O) with
  | false => rfl
  | true =>
    obtain ⟨m, rfl, g⟩ := gridB_iff.1 hg
    have h8 := g.hi
    simp only [Bool.not_true, c_false, s_l07Cusps_val z (N := N) (by omega) g hX0 hO0, i_Grid_front_val z (N := N) (by omega) g hX0 hO0, skip_neg, (front_cusps _ _).1]
    have := cuspS_bd (cornersL m (clip8 X) (clip8 O)) (fun _ => false) (2 * m)
    rw [c_fits (by omega), c_nne rfl, c_nne rfl]
end
end Go.AM
