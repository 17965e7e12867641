/- A part of a proof about the given program: an abstract machine, what the given functions come to, and plain laws. -/
import Derived.Test.YtoegbmhbmfiddaaPallApplyMove1
set_option linter.unusedVariables false
set_option linter.unusedSimpArgs false
namespace Go.AM
section
variable {β : Type}
/-- Two grids are compared cell by cell. -/
def eqG (p q : Int) (a b c d : Nat → Int) : Bool := (p == q && (a 0 == b 0 && (a 1 == b 1 && (a 2 == b 2 && (a 3 == b 3 && (a 4 == b 4 && (a 5 == b 5 && (a 6 == b 6 && (a 7 == b 7 && (c 0 == d 0 && (c 1 == d 1 && (c 2 == d 2 && (c 3 == d 3 && (c 4 == d 4 && (c 5 == d 5 && (c 6 == d 6 && (c 7 == d 7 && true)))))))))))))))))
theorem lt8 {P : Nat → Prop} : (∀ j, j < 8 → P j) ↔ P 0 ∧ P 1 ∧ P 2 ∧ P 3 ∧ P 4 ∧ P 5 ∧ P 6 ∧ P 7 := by
  constructor
  · intro h; exact ⟨h 0 (by omega), h 1 (by omega), h 2 (by omega), h 3 (by omega), h 4 (by omega), h 5 (by omega), h 6 (by omega), h 7 (by omega)⟩
  · rintro ⟨h0, h1, h2, h3, h4, h5, h6, h7⟩ j hj
    have : j = 0 ∨ j = 1 ∨ j = 2 ∨ j = 3 ∨ j = 4 ∨ j = 5 ∨ j = 6 ∨ j = 7 := by omega
    rcases this with rfl | rfl | rfl | rfl | rfl | rfl | rfl | rfl <;> assumption
theorem eqG_iff {p q : Int} {a b c d : Nat → Int} : eqG p q a b c d = true ↔ p = q ∧ ∀ j, j < 8 → a j = b j ∧ c j = d j := by
  rw [lt8]
  unfold eqG
  simp only [Bool.and_eq_true, beq_iff_eq, Bool.and_true]
  constructor
  · rintro ⟨h, h0, h1, h2, h3, h4, h5, h6, h7, g0, g1, g2, g3, g4, g5, g6, g7⟩
    exact ⟨h, ⟨h0, g0⟩, ⟨h1, g1⟩, ⟨h2, g2⟩, ⟨h3, g3⟩, ⟨h4, g4⟩, ⟨h5, g5⟩, ⟨h6, g6⟩, ⟨h7, g7⟩⟩
  · rintro ⟨h, ⟨h0, g0⟩, ⟨h1, g1⟩, ⟨h2, g2⟩, ⟨h3, g3⟩, ⟨h4, g4⟩, ⟨h5, g5⟩, ⟨h6, g6⟩, ⟨h7, g7⟩⟩
    exact ⟨h, h0, h1, h2, h3, h4, h5, h6, h7, g0, g1, g2, g3, g4, g5, g6, g7⟩
theorem oldF_zero {n b : Nat} {r : Int} {P : Nat → Int} : ∀ j, n - 1 ≤ j → oldF n P b r j = 0 := fun j hj => by
  unfold oldF; rw [if_neg (by omega)]
theorem shrunk_step (z : β) {N n i : Nat} (hN : 8 < N) (hi : i + 1 < n) {r : Nat} (hr : r + 1 < n) {X O : Nat → Int} (g : GridP n X O) (hX : ∀ c, 0 ≤ X c ∧ X c < 256) (hO : ∀ c, 0 ≤ O c ∧ O c < 256)
    (t m ρ u : Nat) (ht : t < 8) (hm : m ≤ 1) (hρ : ρ ≤ 1) (hu : u ≤ 1) (e1 : bitI BinOp.and IntKind.i64 (t : Int) 1 = m) (e2 : bitI BinOp.and IntKind.i64 (shrI (t : Int) 1) 1 = ρ) (e3 : shrI (t : Int) 2 = u)
    (M : Nat) (b0 : Int) (a0 a1 h2 : Nat → Int) (k0 : Int → (Nat → Int) → (Nat → Int) → (Nat → Int) → β) (k1 : β) :
    i_Grid_shrunk_l0 z N i r n X O b0 a0 a1 h2 (M + 1) t k0 k1 =
      if 3 ≤ n ∧ FitM m X O i ρ r u then k0 ((n : Int) - 1) (oldF n X (i + 1 - ρ) r) (oldF n O (i + 1 - ρ) r) (mvI i m ρ u) else i_Grid_shrunk_l0 z N i r n X O b0 a0 a1 h2 M ((t : Int) + 1) k0 k1 := by
  have hn := g.hi
  have n2 := g.lo
  rw [i_Grid_shrunk_l0, i_Grid_shrunk_l0_s, c_lt (by omega), c_fits (by omega), e1, e2, e3]
  unfold i_Grid_n
  have hw : upd (upd (upd (upd (fun (x : Nat) => (0 : Int)) 0 (i : Int)) 1 (m : Int)) 2 (ρ : Int)) 3 (u : Int) = mvI i m ρ u := rfl
  rw [hw]
  have w0 : mvI i m ρ u 0 = i := rfl
  have w1 : mvI i m ρ u 1 = m := rfl
  have w2 : mvI i m ρ u 2 = ρ := rfl
  have w3 : mvI i m ρ u 3 = u := rfl
  rw [shrunk_l1_val z hN hn hi hρ (by omega) hX hO w2]
  have pX := g.px
  have pO := g.po
  have x0 : ∀ j, 0 ≤ X j := fun j => (hX j).1
  have o0 : ∀ j, 0 ≤ O j := fun j => (hO j).1
  have bX := oldF_bd (b := i + 1 - ρ) n2 pX x0 (r := r) (by omega)
  have bO := oldF_bd (b := i + 1 - ρ) n2 pO o0 (r := r) (by omega)
  have cn : ((n : Int) - 1) = ((n - 1 : Nat) : Int) := by omega
  rw [i_IsGrid_val z hN _ _ _ (fun j => (bX j).1) (fun j => (bO j).1), cn]
  have fits : 3 ≤ n ∧ FitM m X O i ρ r u → GridP (n - 1) (oldF n X (i + 1 - ρ) r) (oldF n O (i + 1 - ρ) r) ∧
      (if m = 0 then oldF n X (i + 1 - ρ) r else oldF n O (i + 1 - ρ) r) i = r := by
    rintro ⟨h3, hf⟩
    unfold FitM at hf
    rcases m01 hm with rfl | rfl
    · rw [if_pos rfl] at hf
      obtain ⟨p1, p2, p3, p4⟩ := fit_perms h3 (by omega) hi hρ pX pO g.ne x0 o0 (by omega) hf
      exact ⟨⟨by omega, by omega, p1, p2, p3⟩, by rw [if_pos rfl]; exact p4⟩
    · rw [if_neg (by omega)] at hf
      obtain ⟨p1, p2, p3, p4⟩ := fit_perms h3 (by omega) hi hρ pO pX (fun c hc e => g.ne c hc e.symm) o0 x0 (by omega) hf
      exact ⟨⟨by omega, by omega, p2, p1, fun j hj e => p3 j hj e.symm⟩, by rw [if_neg (by omega)]; exact p4⟩
  cases hgb : gridB ((n - 1 : Nat) : Int) (oldF n X (i + 1 - ρ) r) (oldF n O (i + 1 - ρ) r) with
  | false =>
    rw [cond_false, c_fits (by omega), if_neg]
    intro h
    have : gridB ((n - 1 : Nat) : Int) (oldF n X (i + 1 - ρ) r) (oldF n O (i + 1 - ρ) r) = true := gridB_iff.mpr ⟨n - 1, rfl, (fits h).1⟩
    rw [hgb] at this
    cases this
  | true =>
    obtain ⟨q, hq, gq⟩ := gridB_iff.mp hgb
    have hq' : q = n - 1 := by omega
    subst hq'
    have h3 : 3 ≤ n := by have := gq.lo; omega
    rw [cond_true]
    have bX' : ∀ c, c < n - 1 → 0 ≤ oldF n X (i + 1 - ρ) r c ∧ oldF n X (i + 1 - ρ) r c < ((n - 1 : Nat) : Int) := fun c _ => by have := bX c; omega
    have bO' : ∀ c, c < n - 1 → 0 ≤ oldF n O (i + 1 - ρ) r c ∧ oldF n O (i + 1 - ρ) r c < ((n - 1 : Nat) : Int) := fun c _ => by have := bO c; omega
    have nn : ((n - 1 : Nat) : Int) + 1 = n := by omega
    unfold i_Grid_rows
    rw [w1]
    rcases m01 hm with rfl | rfl
    · rw [c_eq (by omega)]
      simp only [c_and, Int.toNat_natCast]
      rw [c_le (by omega), c_lt (by omega), c_blt (by omega)]
      by_cases hi0 : oldF n X (i + 1 - ρ) r i = r
      · rw [c_eq hi0]
        rw [i_Grid_grown_val0 z (n := n - 1) (i := i) (right := ρ) (u := (u : Int)) hN (by omega) (by omega) hρ (by omega) bX' bO' w0 (by rw [w1]; rfl) w2 w3]
        rw [nn]
        by_cases hf : FitM 0 X O i ρ r u
        · rw [if_pos ⟨h3, hf⟩]
          unfold FitM at hf
          rw [if_pos rfl] at hf
          have := fit_grow h3 (by omega) hi hρ pX pO g.ne x0 o0 (by omega) hf
          have hE : eqG (n : Int) n (growO (n - 1) (oldF n X (i + 1 - ρ) r) (oldF n O (i + 1 - ρ) r) i ρ u).1 X (growO (n - 1) (oldF n X (i + 1 - ρ) r) (oldF n O (i + 1 - ρ) r) i ρ u).2 O = true := eqG_iff.mpr ⟨rfl, this⟩
          unfold eqG at hE
          simp only [← c_and]
          rw [hE, cond_true]
        · rw [if_neg fun h => hf h.2]
          have hE : eqG (n : Int) n (growO (n - 1) (oldF n X (i + 1 - ρ) r) (oldF n O (i + 1 - ρ) r) i ρ u).1 X (growO (n - 1) (oldF n X (i + 1 - ρ) r) (oldF n O (i + 1 - ρ) r) i ρ u).2 O = false := by
            rw [← Bool.not_eq_true, eqG_iff]
            intro h
            refine hf ?_
            unfold FitM
            rw [if_pos rfl]
            exact grow_fit hi hn hρ (by omega) hi0 (gq.ne i (by omega)) h.2
          unfold eqG at hE
          simp only [← c_and]
          rw [hE, cond_false, c_fits (by omega)]
      · rw [c_neq hi0, c_fits (by omega), if_neg]
        intro h
        have := (fits h).2
        rw [if_pos rfl] at this
        exact hi0 this
    · rw [c_neq (by omega)]
      simp only [c_and, Int.toNat_natCast]
      rw [c_le (by omega), c_lt (by omega), c_blt (by omega)]
      by_cases hi0 : oldF n O (i + 1 - ρ) r i = r
      · rw [c_eq hi0]
        rw [i_Grid_grown_val1 z (n := n - 1) (i := i) (right := ρ) (u := (u : Int)) hN (by omega) (by omega) hρ (by omega) bX' bO' w0 (by rw [w1]; rfl) w2 w3]
        rw [nn]
        by_cases hf : FitM 1 X O i ρ r u
        · rw [if_pos ⟨h3, hf⟩]
          unfold FitM at hf
          rw [if_neg (by omega)] at hf
          have := fit_grow h3 (by omega) hi hρ pO pX (fun c hc e => g.ne c hc e.symm) o0 x0 (by omega) hf
          have hE : eqG (n : Int) n (growO (n - 1) (oldF n O (i + 1 - ρ) r) (oldF n X (i + 1 - ρ) r) i ρ u).2 X (growO (n - 1) (oldF n O (i + 1 - ρ) r) (oldF n X (i + 1 - ρ) r) i ρ u).1 O = true := eqG_iff.mpr ⟨rfl, fun j hj => (this j hj).symm⟩
          unfold eqG at hE
          simp only [← c_and]
          rw [hE, cond_true]
        · rw [if_neg fun h => hf h.2]
          have hE : eqG (n : Int) n (growO (n - 1) (oldF n O (i + 1 - ρ) r) (oldF n X (i + 1 - ρ) r) i ρ u).2 X (growO (n - 1) (oldF n O (i + 1 - ρ) r) (oldF n X (i + 1 - ρ) r) i ρ u).1 O = false := by
            rw [← Bool.not_eq_true, eqG_iff]
            intro h
            refine hf ?_
            unfold FitM
            rw [if_neg (by omega)]
            exact grow_fit hi hn hρ (by omega) hi0 (fun e => gq.ne i (by omega) e.symm) fun j hj => (h.2 j hj).symm
          unfold eqG at hE
          simp only [← c_and]
          rw [hE, cond_false, c_fits (by omega)]
      · rw [c_neq hi0, c_fits (by omega), if_neg]
        intro h
        have := (fits h).2
        rw [if_neg (by omega)] at this
        exact hi0 this
/-- The program's search. -/
theorem i_shrunk_all (z : β) {N n i : Nat} (hN : 8 < N) (hi : i + 1 < n) {r : Nat} (hr : r + 1 < n) {X O : Nat → Int} (g : GridP n X O) (hX : ∀ c, 0 ≤ X c ∧ X c < 256) (hO : ∀ c, 0 ≤ O c ∧ O c < 256)
    (k : Int → (Nat → Int) → (Nat → Int) → (Nat → Int) → Bool → β) :
    i_Grid_shrunk z N n X O i r k =
      let G := fun m ρ u (e : β) => if 3 ≤ n ∧ FitM m X O i ρ r (u : Nat) then k ((n : Int) - 1) (oldF n X (i + 1 - ρ) r) (oldF n O (i + 1 - ρ) r) (mvI i m ρ u) true else e
      G 0 0 0 (G 1 0 0 (G 0 1 0 (G 1 1 0 (G 0 0 1 (G 1 0 1 (G 0 1 1 (G 1 1 1 (k 0 (fun _ => 0) (fun _ => 0) (fun _ => 0) false)))))))) := by
  obtain ⟨N, rfl⟩ : ∃ N', N = N' + 9 := ⟨N - 9, by omega⟩
  unfold i_Grid_shrunk
  have st := fun t m ρ u ht hm hρ hu e1 e2 e3 M => shrunk_step z hN hi hr g hX hO t m ρ u ht hm hρ hu e1 e2 e3 M 0 (fun _ => 0) (fun _ => 0) (fun _ => 0) (fun q8 q9 q10 q11 => k q8 q9 q10 q11 true) (k 0 (fun _ => 0) (fun _ => 0) (fun _ => 0) false)
  refine (st 0 0 0 0 (by omega) (by omega) (by omega) (by omega) rfl rfl rfl (N + 8)).trans ?_
  refine congrArg (fun e => ite _ _ e) ?_
  refine (st 1 1 0 0 (by omega) (by omega) (by omega) (by omega) rfl rfl rfl (N + 7)).trans ?_
  refine congrArg (fun e => ite _ _ e) ?_
  refine (st 2 0 1 0 (by omega) (by omega) (by omega) (by omega) rfl rfl rfl (N + 6)).trans ?_
  refine congrArg (fun e => ite _ _ e) ?_
  refine (st 3 1 1 0 (by omega) (by omega) (by omega) (by omega) rfl rfl rfl (N + 5)).trans ?_
  refine congrArg (fun e => ite _ _ e) ?_
  refine (st 4 0 0 1 (by omega) (by omega) (by omega) (by omega) rfl rfl rfl (N + 4)).trans ?_
  refine congrArg (fun e => ite _ _ e) ?_
  refine (st 5 1 0 1 (by omega) (by omega) (by omega) (by omega) rfl rfl rfl (N + 3)).trans ?_
  refine congrArg (fun e => ite _ _ e) ?_
  refine (st 6 0 1 1 (by omega) (by omega) (by omega) (by omega) rfl rfl rfl (N + 2)).trans ?_
  refine congrArg (fun e => ite _ _ e) ?_
  refine (st 7 1 1 1 (by omega) (by omega) (by omega) (by omega) rfl rfl rfl (N + 1)).trans ?_
  refine congrArg (fun e => ite _ _ e) ?_
  rw [show ((7 : Nat) : Int) + 1 = 8 from rfl, i_Grid_shrunk_l0, i_Grid_shrunk_l0_s, c_nlt (by omega)]
end
end Go.AM

namespace Go.AM
section
variable {β : Type}
theorem min_bif (a b : Int) : (bif decide (b < a) then b else a) = min a b := by rw [c_dec]; split <;> omega
theorem max_bif (a b : Int) : (bif decide (a < b) then b else a) = max a b := by rw [c_dec]; split <;> omega
/-- Do two spans lie apart? -/
def apart2 (a b c d : Int) : Bool := !(a == c) && (!(a == d) && (!(b == c) && (!(b == d) && ((decide (min a b < c) && decide (c < max a b)) == (decide (min a b < d) && decide (d < max a b))))))
theorem i_areApart_val (z : β) (N : Nat) (a b c d : Int) (k : Bool → β) : i_areApart z N a b c d k = k (apart2 a b c d) := by
  unfold i_areApart apart2
  simp only [min_bif, max_bif]
  cases a == c <;> cases a == d <;> cases b == c <;> cases b == d <;> cases decide (min a b < c) <;> cases decide (min a b < d) <;> cases decide (c < max a b) <;> cases decide (d < max a b) <;> rfl
theorem s_l02Free_val (z : β) (N : Nat) {a b c d : Int} (hab : a ≠ b) (hcd : c ≠ d) (k : Bool → β) : s_l02Free z N a b c d k = k (apart2 a b c d) := by
  have key : apart2 a b c d = (!(a == c) && (!(a == d) && (!(b == c) && (!(b == d) && (((decide (min a b < c) && decide (c < max a b)) == (decide (min a b < d) && decide (d < max a b))) || ((decide (min c d < a) && decide (a < max c d)) == (decide (min c d < b) && decide (b < max c d)))))))) := by
    unfold apart2
    by_cases h1 : a = c
    · simp [h1]
    by_cases h2 : a = d
    · simp [h2]
    by_cases h3 : b = c
    · simp [h3]
    by_cases h4 : b = d
    · simp [h4]
    have e : ((decide (min c d < a) && decide (a < max c d)) == (decide (min c d < b) && decide (b < max c d))) = ((decide (min a b < c) && decide (c < max a b)) == (decide (min a b < d) && decide (d < max a b))) := by
      have q : ∀ p q r s : Bool, ((p == q) = (r == s)) ↔ ((p = true ↔ q = true) ↔ (r = true ↔ s = true)) := by decide
      rw [q]
      simp only [Bool.and_eq_true, decide_eq_true_eq]
      constructor <;> intro h <;> constructor <;> intro h' <;> omega
    rw [e, Bool.or_self]
  rw [key]
  unfold s_l02Free
  simp only [min_bif, max_bif]
  cases a == c <;> cases a == d <;> cases b == c <;> cases b == d <;> first | rfl | skip
  cases decide (min a b < c) <;> cases decide (min a b < d) <;> cases decide (c < max a b) <;> cases decide (d < max a b) <;> cases decide (min c d < a) <;> cases decide (min c d < b) <;> cases decide (a < max c d) <;> cases decide (b < max c d) <;> rfl
/-- May two neighbouring rows be exchanged? -/
noncomputable def rowsB (n : Nat) (X O : Nat → Int) (r : Nat) : Bool := apart2 (rowOf n X r) (rowOf n O r) (rowOf n X (r + 1)) (rowOf n O (r + 1))
theorem rowOf_ne {n : Nat} {X O : Nat → Int} (g : GridP n X O) (hX : ∀ j, 0 ≤ X j) (hO : ∀ j, 0 ≤ O j) {r : Nat} (hr : r < n) : (rowOf n X r : Int) ≠ rowOf n O r := by
  intro e
  have h1 := rowOf_spec g.px hX hr
  have h2 := rowOf_spec g.po hO hr
  have := g.ne _ h1.1
  rw [h1.2, show rowOf n X r = rowOf n O r by omega, h2.2] at this
  exact this rfl
theorem s_l02Rows_val (z : β) {N : Nat} (hN : 8 < N) {n : Nat} {X O : Nat → Int} (g : GridP n X O) (hX : ∀ j, 0 ≤ X j) (hO : ∀ j, 0 ≤ O j) {r : Nat} (hr : r + 1 < n) (k : Bool → β) : s_l02Rows z N n X O r k = k (rowsB n X O r) := by
  unfold s_l02Rows
  have h8 := g.hi
  have hr0 : r < n := by omega
  have e : ((r : Int) + 1) = ((r + 1 : Nat) : Int) := by omega
  rw [s_l01Row_val z hN h8 g.px hX hr0, s_l01Row_val z hN h8 g.po hO hr0, c_fits (by omega)]
  rw [e, s_l01Row_val z hN h8 g.px hX hr]
  rw [c_fits (by omega), s_l01Row_val z hN h8 g.po hO hr, s_l02Free_val z N (rowOf_ne g hX hO hr0) (rowOf_ne g hX hO hr)]
  rfl
theorem i_Grid_canRows_val (z : β) {N : Nat} (hN : 8 < N) {n : Nat} {X O : Nat → Int} (g : GridP n X O) (hX : ∀ j, 0 ≤ X j) (hO : ∀ j, 0 ≤ O j) {r : Nat} (hr : r + 1 < n) (k : Bool → β) : i_Grid_canRows z N n X O r k = k (rowsB n X O r) := by
  unfold i_Grid_canRows
  have h8 := g.hi
  have hr0 : r < n := by omega
  have e : ((r : Int) + 1).toNat = r + 1 := by omega
  simp only [i_Grid_places_val z hN h8 g.px hX, i_Grid_places_val z hN h8 g.po hO, c_and, e, Int.toNat_natCast, plc_spec g.px hX hr0, plc_spec g.po hO hr0, plc_spec g.px hX hr, plc_spec g.po hO hr]
  simp (disch := omega) only [c_lt, c_le, c_blt, c_fits, i_areApart_val]
  rfl
/-- A row when two neighbouring rows have been exchanged. -/
def swapR (r : Nat) (v : Int) : Int := if v = r then r + 1 else if v = r + 1 then r else v
def swapF (n : Nat) (r : Nat) (X : Nat → Int) : Nat → Int := fun i => if i < n then swapR r (X i) else X i
theorem wrap8 {x : Int} (h : 0 ≤ x ∧ x ≤ 255) : wrapU IntKind.u8 x = x := by unfold wrapU kmod; simp only; omega
theorem s_l02SwapRows_val (z : β) {N : Nat} (hN : 8 < N) {n : Nat} (h8 : n ≤ 8) (X O : Nat → Int) {r : Nat} (hr : r + 1 < n) (k : (Nat → Int) → (Nat → Int) → β) : s_l02SwapRows z N n X O r k = k (swapF n r X) (swapF n r O) := by
  unfold s_l02SwapRows
  rw [c_fits (by omega), wrap8 (by omega), wrap8 (by omega)]
  have := up_to (L := fun m i (h : (Nat → Int) × (Nat → Int)) => s_l02SwapRows_l0 z r ((r : Int) + 1) n 0 (fun _ => 0) (fun _ => 0) m (i : Int) h.1 h.2 k) (n := n) (out := fun h => k h.1 h.2) (f := fun i h => (upd h.1 i (swapR r (h.1 i)), upd h.2 i (swapR r (h.2 i)))) (I := fun _ _ => True)
    (fun m i s hi _ => ⟨?_, trivial⟩) (fun m s _ => by simp (disch := omega) only [s_l02SwapRows_l0, s_l02SwapRows_l0_s, c_nlt]) n N 0 (X, O) (by omega) (by omega) trivial
  · refine this.trans ?_
    have e : ∀ Y : Nat → Int, ∀ d i : Nat, ∀ h : Nat → Int, (∀ j, i ≤ j → h j = Y j) → iter (fun i (h : Nat → Int) => upd h i (swapR r (h i))) d i h = fun j => if i ≤ j ∧ j < i + d then swapR r (Y j) else h j := by
      intro Y d
      induction d with
      | zero => intro i h _; funext j; rw [if_neg (by omega)]; rfl
      | succ d ih =>
        intro i h hh
        rw [iter, ih (i + 1) _ (fun j hj => by rw [upd_at, if_neg (by omega)]; exact hh j (by omega))]
        funext j
        simp only [upd_at]
        by_cases e : j = i
        · subst e; rw [if_neg (by omega), if_pos rfl, if_pos (by omega), hh j (by omega)]
        · by_cases e2 : i + 1 ≤ j ∧ j < i + 1 + d
          · rw [if_pos e2, if_pos (by omega)]
          · rw [if_neg e2, if_neg e, if_neg (by omega)]
    have e2 : ∀ d i : Nat, ∀ s : (Nat → Int) × (Nat → Int), iter (fun i (h : (Nat → Int) × (Nat → Int)) => (upd h.1 i (swapR r (h.1 i)), upd h.2 i (swapR r (h.2 i)))) d i s = (iter (fun i (h : Nat → Int) => upd h i (swapR r (h i))) d i s.1, iter (fun i (h : Nat → Int) => upd h i (swapR r (h i))) d i s.2) := by
      intro d
      induction d with
      | zero => intro i s; rfl
      | succ d ih => intro i s; rw [iter, ih]; rfl
    rw [e2, e X n 0 X (fun _ _ => rfl), e O n 0 O (fun _ _ => rfl)]
    unfold swapF
    simp only [Nat.zero_le, true_and, Nat.zero_add]
  · simp only [s_l02SwapRows_l0, s_l02SwapRows_l0_s, c_and, Int.toNat_natCast]
    have self : ∀ h : Nat → Int, upd h i (h i) = h := fun h => by funext j; rw [upd_at]; split; (· subst_vars; rfl); rfl
    unfold swapR
    by_cases a1 : s.1 i = r <;> by_cases a2 : s.1 i = (r : Int) + 1 <;> by_cases b1 : s.2 i = r <;> by_cases b2 : s.2 i = (r : Int) + 1 <;> first
      | omega
      | (simp (disch := omega) only [c_lt, c_le, c_blt, c_fits, c_eq, c_neq, if_pos, if_neg, a1, a2, b1, b2, self, reduceIte]; try rfl)
theorem swapR_bd {n r : Nat} (hr : r + 1 < n) (h8 : n ≤ 8) {v : Int} (h0 : 0 ≤ v) (hv : v < n) : 0 ≤ swapR r v ∧ swapR r v < n := by unfold swapR; split; omega; split <;> omega
theorem i_Grid_swapRows_val (z : β) {N : Nat} (hN : 8 < N) {n : Nat} {X O : Nat → Int} (g : GridP n X O) (hX : ∀ j, 0 ≤ X j) (hO : ∀ j, 0 ≤ O j) (zX : ∀ j, 8 ≤ j → X j = 0) (zO : ∀ j, 8 ≤ j → O j = 0) {r : Nat} (hr : r + 1 < n) (k : (Nat → Int) → (Nat → Int) → β) :
    i_Grid_swapRows z N n X O r k = k (swapF n r X) (swapF n r O) := by
  have h8 := g.hi
  unfold i_Grid_swapRows i_Grid_led_s3 i_Grid_n
  rw [c_false]
  have := up_to (L := fun m i (h : (Nat → Int) × (Nat → Int)) => i_Grid_led_l0_s6 z N n r n X O 0 (fun _ => 0) (fun _ => 0) n m (i : Int) h.1 h.2 k) (n := n) (out := fun h => k h.1 h.2) (f := fun i h => (upd h.1 i (swapR r (X i)), upd h.2 i (swapR r (O i)))) (I := fun _ _ => True)
    (fun m i s hi _ => ⟨?_, trivial⟩) (fun m s _ => by simp (disch := omega) only [i_Grid_led_l0_s6, i_Grid_led_l0_s6_s, c_nlt]) n N 0 (fun _ => 0, fun _ => 0) (by omega) (by omega) trivial
  · refine this.trans ?_
    have e2 : ∀ d i : Nat, ∀ s : (Nat → Int) × (Nat → Int), iter (fun i (h : (Nat → Int) × (Nat → Int)) => (upd h.1 i (swapR r (X i)), upd h.2 i (swapR r (O i)))) d i s = (iter (fun i (h : Nat → Int) => upd h i (swapR r (X i))) d i s.1, iter (fun i (h : Nat → Int) => upd h i (swapR r (O i))) d i s.2) := by
      intro d
      induction d with
      | zero => intro i s; rfl
      | succ d ih => intro i s; rw [iter, ih]; rfl
    rw [e2, iter_set (fun i => swapR r (X i)), iter_set (fun i => swapR r (O i))]
    have e3 : ∀ Y : Nat → Int, PermP 8 n Y → (∀ j, 8 ≤ j → Y j = 0) → (fun j => if 0 ≤ j ∧ j < 0 + n then swapR r (Y j) else 0) = swapF n r Y := by
      intro Y hp hz
      funext j
      unfold swapF
      simp only [Nat.zero_le, true_and, Nat.zero_add]
      split
      · rfl
      · by_cases h : j < 8
        · exact (hp.1 j (by omega) h).symm
        · exact (hz j (by omega)).symm
    rw [e3 X g.px zX, e3 O g.po zO]
  · have a1 := hX i
    have a2 := g.px.2.1 i hi
    have b1 := hO i
    have b2 := g.po.2.1 i hi
    have sw : ∀ v : Int, 0 ≤ v → v < n → ∀ kk : Int → β, i_Grid_swapRows_1 z N i v r kk = kk (swapR r v) := by
      intro v h0 h1 kk
      unfold i_Grid_swapRows_1 swapR
      by_cases e1 : v = r
      · rw [c_eq e1, c_fits (by omega), if_pos e1]
      · rw [c_neq e1, c_fits (by omega), if_neg e1]
        by_cases e2 : v = (r : Int) + 1
        · rw [c_eq e2, if_pos e2]
        · rw [c_neq e2, if_neg e2]
    have c1 := swapR_bd hr h8 a1 a2
    have c2 := swapR_bd hr h8 b1 b2
    simp only [i_Grid_led_l0_s6, i_Grid_led_l0_s6_s, c_and, Int.toNat_natCast, sw _ a1 a2, sw _ b1 b2, wrap8 (show 0 ≤ swapR r (X i) ∧ swapR r (X i) ≤ 255 by omega), wrap8 (show 0 ≤ swapR r (O i) ∧ swapR r (O i) ≤ 255 by omega)]
    simp (disch := omega) only [c_lt, c_le, c_blt, c_fits]
    rfl
theorem s_place1 (z : β) {N : Nat} (hN : 8 < N) {n : Int} {X O : Nat → Int} (hX : ∀ j, 0 ≤ X j) (hO : ∀ j, 0 ≤ O j) (r : Int) (k : Int → β) :
    s_l02Place z N n X O ((List.replicate 1 0).set 0 r) k = cond (gridB n X O) (cond (decide (0 ≤ r ∧ r ≤ n - 2)) (k 0) (k 2)) (k 1) := by
  unfold s_l02Place
  rw [s_l01Is_val z hN _ _ _ hX hO]
  cases hg : gridB n X O with
  | false => rfl
  | true =>
    obtain ⟨m, rfl, g⟩ := gridB_iff.1 hg
    have h8 := g.hi
    obtain ⟨N, rfl⟩ : ∃ M, N = M + 2 := ⟨N - 2, by omega⟩
    simp only [Bool.not_true, c_false, c_true, s_l02Place_l0, s_l02Place_l0_s, c_and, s_l01In_val]
    have e : ((List.replicate 1 0).set 0 r).length = 1 := by simp
    rw [e]
    simp (disch := omega) only [c_lt, c_le, c_blt, c_fits, c_beq]
    by_cases h : 0 ≤ r ∧ r ≤ (m : Int) - 2
    · simp [h, List.set, c_if, fits64]
    · simp [h, List.set, c_if]
theorem i_place1 (z : β) {N : Nat} (hN : 8 < N) {n : Int} {X O : Nat → Int} (hX : ∀ j, 0 ≤ X j) (hO : ∀ j, 0 ≤ O j) (r : Int) (k : Int → β) :
    i_isPair z N n X O ((List.replicate 1 0).set 0 r) k = cond (gridB n X O) (cond (decide (0 ≤ r ∧ r ≤ n - 2)) (k 0) (k 2)) (k 1) := by
  unfold i_isPair
  rw [i_IsGrid_val z hN _ _ _ hX hO]
  cases hg : gridB n X O with
  | false => rfl
  | true =>
    obtain ⟨m, rfl, g⟩ := gridB_iff.1 hg
    have h8 := g.hi
    obtain ⟨N, rfl⟩ : ∃ M, N = M + 2 := ⟨N - 2, by omega⟩
    simp only [Bool.not_true, c_false, c_true, i_isPair_l0, i_isPair_l0_s, c_and, i_within_val]
    have e : ((List.replicate 1 0).set 0 r).length = 1 := by simp
    rw [e]
    simp (disch := omega) only [c_lt, c_le, c_blt, c_fits, c_beq]
    by_cases h : 0 ≤ r ∧ r ≤ (m : Int) - 2
    · simp [h, List.set, c_if, fits64]
    · simp [h, List.set, c_if]
theorem w_FnExactExchangeRows_val (z : β) {N : Nat} (hN : 8 < N) (n : Int) (X O : Nat → Int) (r : Int) (hX : ∀ j, j < 8 → 0 ≤ X j ∧ X j ≤ 255) (hO : ∀ j, j < 8 → 0 ≤ O j ∧ O j ≤ 255) (k0 : Bool → β) : w_FnExactExchangeRows z N n X O r k0 = k0 true := by
  unfold w_FnExactExchangeRows
  have hX0 := clip8_nn fun j h => (hX j h).1
  have hO0 := clip8_nn fun j h => (hO j h).1
  have zX : ∀ j, 8 ≤ j → clip8 X j = 0 := fun j h => if_neg (by omega)
  have zO : ∀ j, 8 ≤ j → clip8 O j = 0 := fun j h => if_neg (by omega)
  simp only [w_toGrid_val z hN, s_ExchangeRows, i_ExchangeRows, i_CanExchangeRows, s_place1 z hN hX0 hO0, i_place1 z hN hX0 hO0]
  cases hg : gridB n (clip8 X) (clip8 O) with
  | false =>
    simp only [c_false]
    simp (disch := omega) only [c_ne, w_eqGrid_refl z hN, Bool.not_true, c_false, bne_self_eq_false]
  | true =>
    obtain ⟨m, rfl, g⟩ := gridB_iff.1 hg
    simp only [c_true]
    by_cases h : 0 ≤ r ∧ r ≤ (m : Int) - 2
    · obtain ⟨q, rfl⟩ : ∃ q : Nat, r = (q : Int) := ⟨r.toNat, by omega⟩
      have hq : q + 1 < m := by omega
      simp only [decide_eq_true h, c_true, bne_self_eq_false, c_false, s_l02Rows_val z hN g hX0 hO0 hq, i_Grid_canRows_val z hN g hX0 hO0 hq]
      cases rowsB m (clip8 X) (clip8 O) q with
      | false => simp only [Bool.not_false, c_true, w_eqGrid_refl z hN, Bool.not_true, c_false, bne_self_eq_false]
      | true => simp only [Bool.not_true, c_false, s_l02SwapRows_val z hN g.hi _ _ hq, i_Grid_swapRows_val z hN g hX0 hO0 zX zO hq, w_eqGrid_refl z hN, bne_self_eq_false]
    · simp only [decide_eq_false h, c_false]
      simp (disch := omega) only [c_ne, w_eqGrid_refl z hN, Bool.not_true, c_false, bne_self_eq_false]
end
end Go.AM

namespace Go.AM
section
variable {β : Type}
def Any (X O : Nat → Int) (i : Nat) (r : Int) : Prop := ∃ m ρ u : Nat, m ≤ 1 ∧ ρ ≤ 1 ∧ u ≤ 1 ∧ FitM m X O i ρ r (u : Nat)
theorem s_back_hit (z : β) {N n i : Nat} (hN : 8 < N) (h3 : 3 ≤ n) (hn : n ≤ 8) (hi : i + 1 < n) {r : Nat} (hr : r + 1 < n) {X O : Nat → Int} (hX : ∀ c, 0 ≤ X c ∧ X c < 256) (hO : ∀ c, 0 ≤ O c ∧ O c < 256) (pX : PermP 8 n X) (pO : PermP 8 n O)
    {m ρ u : Nat} (hm : m ≤ 1) (hρ : ρ ≤ 1) (hu : u ≤ 1) (hf : FitM m X O i ρ r (u : Nat)) : ∃ mv, ∀ (k : Int → (Nat → Int) → (Nat → Int) → (Nat → Int) → Bool → β), s_l02Back z N n X O i r k = k ((n : Int) - 1) (oldF n X (i + 1 - ρ) r) (oldF n O (i + 1 - ρ) r) mv true := by
  have fr : ∀ m' ρ' u' : Nat, ρ' ≤ 1 → u' ≤ 1 → FitM m' X O i ρ' r (u' : Nat) → ρ' = ρ := fun m' ρ' u' h1 h2 h => fit_right hi pX pO h1 hρ (by omega) (by omega) h hf
  by_cases f0 : FitM 0 X O i 0 r (0 : Nat)
  · have := fr _ _ _ (by omega) (by omega) f0; subst this
    exact ⟨_, fun k => by rw [s_back_all z hN h3 hn hi hr hX hO pX pO]; simp only; rw [if_pos f0]⟩
  by_cases f1 : FitM 0 X O i 0 r (1 : Nat)
  · have := fr _ _ _ (by omega) (by omega) f1; subst this
    exact ⟨_, fun k => by rw [s_back_all z hN h3 hn hi hr hX hO pX pO]; simp only; rw [if_neg f0, if_pos f1]⟩
  by_cases f2 : FitM 0 X O i 1 r (0 : Nat)
  · have := fr _ _ _ (by omega) (by omega) f2; subst this
    exact ⟨_, fun k => by rw [s_back_all z hN h3 hn hi hr hX hO pX pO]; simp only; rw [if_neg f0, if_neg f1, if_pos f2]⟩
  by_cases f3 : FitM 0 X O i 1 r (1 : Nat)
  · have := fr _ _ _ (by omega) (by omega) f3; subst this
    exact ⟨_, fun k => by rw [s_back_all z hN h3 hn hi hr hX hO pX pO]; simp only; rw [if_neg f0, if_neg f1, if_neg f2, if_pos f3]⟩
  by_cases f4 : FitM 1 X O i 0 r (0 : Nat)
  · have := fr _ _ _ (by omega) (by omega) f4; subst this
    exact ⟨_, fun k => by rw [s_back_all z hN h3 hn hi hr hX hO pX pO]; simp only; rw [if_neg f0, if_neg f1, if_neg f2, if_neg f3, if_pos f4]⟩
  by_cases f5 : FitM 1 X O i 0 r (1 : Nat)
  · have := fr _ _ _ (by omega) (by omega) f5; subst this
    exact ⟨_, fun k => by rw [s_back_all z hN h3 hn hi hr hX hO pX pO]; simp only; rw [if_neg f0, if_neg f1, if_neg f2, if_neg f3, if_neg f4, if_pos f5]⟩
  by_cases f6 : FitM 1 X O i 1 r (0 : Nat)
  · have := fr _ _ _ (by omega) (by omega) f6; subst this
    exact ⟨_, fun k => by rw [s_back_all z hN h3 hn hi hr hX hO pX pO]; simp only; rw [if_neg f0, if_neg f1, if_neg f2, if_neg f3, if_neg f4, if_neg f5, if_pos f6]⟩
  by_cases f7 : FitM 1 X O i 1 r (1 : Nat)
  · have := fr _ _ _ (by omega) (by omega) f7; subst this
    exact ⟨_, fun k => by rw [s_back_all z hN h3 hn hi hr hX hO pX pO]; simp only; rw [if_neg f0, if_neg f1, if_neg f2, if_neg f3, if_neg f4, if_neg f5, if_neg f6, if_pos f7]⟩
  exfalso
  rcases m01 hm with rfl | rfl <;> rcases m01 hρ with rfl | rfl <;> rcases m01 hu with rfl | rfl <;> contradiction
theorem s_back_miss (z : β) {N n i : Nat} (hN : 8 < N) (hn : n ≤ 8) (hi : i + 1 < n) {r : Nat} (hr : r + 1 < n) {X O : Nat → Int} (hX : ∀ c, 0 ≤ X c ∧ X c < 256) (hO : ∀ c, 0 ≤ O c ∧ O c < 256) (pX : PermP 8 n X) (pO : PermP 8 n O)
    (h : ¬ (3 ≤ n ∧ Any X O i r)) (k : Int → (Nat → Int) → (Nat → Int) → (Nat → Int) → Bool → β) : s_l02Back z N n X O i r k = k 0 (fun _ => 0) (fun _ => 0) (fun _ => 0) false := by
  rcases Nat.lt_or_ge n 3 with h3 | h3
  · unfold s_l02Back; rw [c_lt (by omega)]
  · have no : ∀ m ρ u : Nat, m ≤ 1 → ρ ≤ 1 → u ≤ 1 → ¬ FitM m X O i ρ r (u : Nat) := fun m ρ u h1 h2 h4 hf => h ⟨h3, m, ρ, u, h1, h2, h4, hf⟩
    rw [s_back_all z hN h3 hn hi hr hX hO pX pO]
    simp only
    rw [if_neg (no 0 0 0 (by omega) (by omega) (by omega)), if_neg (no 0 0 1 (by omega) (by omega) (by omega)), if_neg (no 0 1 0 (by omega) (by omega) (by omega)), if_neg (no 0 1 1 (by omega) (by omega) (by omega)), if_neg (no 1 0 0 (by omega) (by omega) (by omega)), if_neg (no 1 0 1 (by omega) (by omega) (by omega)), if_neg (no 1 1 0 (by omega) (by omega) (by omega)), if_neg (no 1 1 1 (by omega) (by omega) (by omega))]
theorem i_shrunk_hit (z : β) {N n i : Nat} (hN : 8 < N) (h3 : 3 ≤ n) (hi : i + 1 < n) {r : Nat} (hr : r + 1 < n) {X O : Nat → Int} (g : GridP n X O) (hX : ∀ c, 0 ≤ X c ∧ X c < 256) (hO : ∀ c, 0 ≤ O c ∧ O c < 256)
    {m ρ u : Nat} (hm : m ≤ 1) (hρ : ρ ≤ 1) (hu : u ≤ 1) (hf : FitM m X O i ρ r (u : Nat)) : ∃ mv, ∀ (k : Int → (Nat → Int) → (Nat → Int) → (Nat → Int) → Bool → β), i_Grid_shrunk z N n X O i r k = k ((n : Int) - 1) (oldF n X (i + 1 - ρ) r) (oldF n O (i + 1 - ρ) r) mv true := by
  have fr : ∀ m' ρ' u' : Nat, ρ' ≤ 1 → u' ≤ 1 → FitM m' X O i ρ' r (u' : Nat) → ρ' = ρ := fun m' ρ' u' h1 h2 h => fit_right hi g.px g.po h1 hρ (by omega) (by omega) h hf
  by_cases f0 : FitM 0 X O i 0 r (0 : Nat)
  · have := fr _ _ _ (by omega) (by omega) f0; subst this
    exact ⟨_, fun k => by rw [i_shrunk_all z hN hi hr g hX hO]; simp only; rw [if_pos ⟨h3, f0⟩]⟩
  by_cases f1 : FitM 1 X O i 0 r (0 : Nat)
  · have := fr _ _ _ (by omega) (by omega) f1; subst this
    exact ⟨_, fun k => by rw [i_shrunk_all z hN hi hr g hX hO]; simp only; rw [if_neg (fun h => f0 h.2), if_pos ⟨h3, f1⟩]⟩
  by_cases f2 : FitM 0 X O i 1 r (0 : Nat)
  · have := fr _ _ _ (by omega) (by omega) f2; subst this
    exact ⟨_, fun k => by rw [i_shrunk_all z hN hi hr g hX hO]; simp only; rw [if_neg (fun h => f0 h.2), if_neg (fun h => f1 h.2), if_pos ⟨h3, f2⟩]⟩
  by_cases f3 : FitM 1 X O i 1 r (0 : Nat)
  · have := fr _ _ _ (by omega) (by omega) f3; subst this
    exact ⟨_, fun k => by rw [i_shrunk_all z hN hi hr g hX hO]; simp only; rw [if_neg (fun h => f0 h.2), if_neg (fun h => f1 h.2), if_neg (fun h => f2 h.2), if_pos ⟨h3, f3⟩]⟩
  by_cases f4 : FitM 0 X O i 0 r (1 : Nat)
  · have := fr _ _ _ (by omega) (by omega) f4; subst this
    exact ⟨_, fun k => by rw [i_shrunk_all z hN hi hr g hX hO]; simp only; rw [if_neg (fun h => f0 h.2), if_neg (fun h => f1 h.2), if_neg (fun h => f2 h.2), if_neg (fun h => f3 h.2), if_pos ⟨h3, f4⟩]⟩
  by_cases f5 : FitM 1 X O i 0 r (1 : Nat)
  · have := fr _ _ _ (by omega) (by omega) f5; subst this
    exact ⟨_, fun k => by rw [i_shrunk_all z hN hi hr g hX hO]; simp only; rw [if_neg (fun h => f0 h.2), if_neg (fun h => f1 h.2), if_neg (fun h => f2 h.2), if_neg (fun h => f3 h.2), if_neg (fun h => f4 h.2), if_pos ⟨h3, f5⟩]⟩
  by_cases f6 : FitM 0 X O i 1 r (1 : Nat)
  · have := fr _ _ _ (by omega) (by omega) f6; subst this
    exact ⟨_, fun k => by rw [i_shrunk_all z hN hi hr g hX hO]; simp only; rw [if_neg (fun h => f0 h.2), if_neg (fun h => f1 h.2), if_neg (fun h => f2 h.2), if_neg (fun h => f3 h.2), if_neg (fun h => f4 h.2), if_neg (fun h => f5 h.2), if_pos ⟨h3, f6⟩]⟩
  by_cases f7 : FitM 1 X O i 1 r (1 : Nat)
  · have := fr _ _ _ (by omega) (by omega) f7; subst this
    exact ⟨_, fun k => by rw [i_shrunk_all z hN hi hr g hX hO]; simp only; rw [if_neg (fun h => f0 h.2), if_neg (fun h => f1 h.2), if_neg (fun h => f2 h.2), if_neg (fun h => f3 h.2), if_neg (fun h => f4 h.2), if_neg (fun h => f5 h.2), if_neg (fun h => f6 h.2), if_pos ⟨h3, f7⟩]⟩
  exfalso
  rcases m01 hm with rfl | rfl <;> rcases m01 hρ with rfl | rfl <;> rcases m01 hu with rfl | rfl <;> contradiction
theorem i_shrunk_miss (z : β) {N n i : Nat} (hN : 8 < N) (hi : i + 1 < n) {r : Nat} (hr : r + 1 < n) {X O : Nat → Int} (g : GridP n X O) (hX : ∀ c, 0 ≤ X c ∧ X c < 256) (hO : ∀ c, 0 ≤ O c ∧ O c < 256)
    (h : ¬ (3 ≤ n ∧ Any X O i r)) (k : Int → (Nat → Int) → (Nat → Int) → (Nat → Int) → Bool → β) : i_Grid_shrunk z N n X O i r k = k 0 (fun _ => 0) (fun _ => 0) (fun _ => 0) false := by
  have no : ∀ m ρ u : Nat, m ≤ 1 → ρ ≤ 1 → u ≤ 1 → ¬ (3 ≤ n ∧ FitM m X O i ρ r (u : Nat)) := fun m ρ u h1 h2 h4 hf => h ⟨hf.1, m, ρ, u, h1, h2, h4, hf.2⟩
  rw [i_shrunk_all z hN hi hr g hX hO]
  simp only
  rw [if_neg (no 0 0 0 (by omega) (by omega) (by omega)), if_neg (no 1 0 0 (by omega) (by omega) (by omega)), if_neg (no 0 1 0 (by omega) (by omega) (by omega)), if_neg (no 1 1 0 (by omega) (by omega) (by omega)), if_neg (no 0 0 1 (by omega) (by omega) (by omega)), if_neg (no 1 0 1 (by omega) (by omega) (by omega)), if_neg (no 0 1 1 (by omega) (by omega) (by omega)), if_neg (no 1 1 1 (by omega) (by omega) (by omega))]
end
end Go.AM

namespace Go.AM
section
variable {β : Type}
def swC (i : Nat) (X : Nat → Int) : Nat → Int := upd (upd X i (X (i + 1))) (i + 1) (X i)
/-- A grid in eight cells. -/
structure GridZ (n : Nat) (X O : Nat → Int) : Prop where
  g : GridP n X O
  x : ∀ c, 0 ≤ X c ∧ X c < 256
  o : ∀ c, 0 ≤ O c ∧ O c < 256
  zx : ∀ j, 8 ≤ j → X j = 0
  zo : ∀ j, 8 ≤ j → O j = 0
theorem swC_at (i : Nat) (X : Nat → Int) (j : Nat) : swC i X j = X (if j = i then i + 1 else if j = i + 1 then i else j) := by
  unfold swC
  rw [upd_at, upd_at]
  by_cases h1 : j = i + 1
  · rw [if_pos h1, if_neg (by omega), if_pos h1]
  · by_cases h2 : j = i
    · rw [if_neg h1, if_pos h2, if_pos h2]
    · rw [if_neg h1, if_neg h2, if_neg h2, if_neg h1]
theorem swC_perm {n i : Nat} (hi : i + 1 < n) {X : Nat → Int} (h : PermP 8 n X) : PermP 8 n (swC i X) := by
  refine ⟨fun j h1 h2 => ?_, fun j hj => ?_, fun a b ha hb e => ?_⟩
  · rw [swC_at, if_neg (by omega), if_neg (by omega)]; exact h.1 j h1 h2
  · rw [swC_at]; refine h.2.1 _ ?_; split
    · omega
    · split <;> omega
  · rw [swC_at, swC_at] at e
    have := h.2.2 _ _ ?_ ?_ e
    · split at this
      · split at this
        · omega
        · split at this <;> omega
      · split at this
        · split at this
          · omega
          · split at this <;> omega
        · split at this
          · omega
          · split at this <;> omega
    · split
      · omega
      · split <;> omega
    · split
      · omega
      · split <;> omega
theorem swC_grid {n i : Nat} (hi : i + 1 < n) {X O : Nat → Int} (G : GridZ n X O) : GridZ n (swC i X) (swC i O) := by
  have g := G.g
  have h8 := g.hi
  refine ⟨⟨g.lo, g.hi, swC_perm hi g.px, swC_perm hi g.po, fun j hj => ?_⟩, fun c => ?_, fun c => ?_, fun j hj => ?_, fun j hj => ?_⟩
  · rw [swC_at, swC_at]; refine g.ne _ ?_; split
    · omega
    · split <;> omega
  · rw [swC_at]; exact G.x _
  · rw [swC_at]; exact G.o _
  · rw [swC_at, if_neg (by omega), if_neg (by omega)]; exact G.zx j hj
  · rw [swC_at, if_neg (by omega), if_neg (by omega)]; exact G.zo j hj
theorem swapR_inj {r : Nat} {x y : Int} (e : swapR r x = swapR r y) : x = y := by
  unfold swapR at e
  split at e
  · split at e
    · omega
    · split at e <;> omega
  · split at e
    · split at e
      · omega
      · split at e <;> omega
    · split at e
      · omega
      · split at e <;> omega
theorem swapF_perm {n r : Nat} (h8 : n ≤ 8) (hr : r + 1 < n) {X : Nat → Int} (h : PermP 8 n X) (h0 : ∀ j, 0 ≤ X j) : PermP 8 n (swapF n r X) := by
  refine ⟨fun j h1 h2 => ?_, fun j hj => ?_, fun a b ha hb e => ?_⟩
  · unfold swapF; rw [if_neg (by omega)]; exact h.1 j h1 h2
  · unfold swapF; rw [if_pos hj]; exact (swapR_bd hr h8 (h0 j) (h.2.1 j hj)).2
  · unfold swapF at e; rw [if_pos ha, if_pos hb] at e; exact h.2.2 a b ha hb (swapR_inj e)
theorem swapF_grid {n r : Nat} (hr : r + 1 < n) {X O : Nat → Int} (G : GridZ n X O) : GridZ n (swapF n r X) (swapF n r O) := by
  have g := G.g
  have h8 := g.hi
  refine ⟨⟨g.lo, g.hi, swapF_perm h8 hr g.px fun j => (G.x j).1, swapF_perm h8 hr g.po fun j => (G.o j).1, fun j hj => ?_⟩, fun c => ?_, fun c => ?_, fun j hj => ?_, fun j hj => ?_⟩
  · unfold swapF; rw [if_pos hj, if_pos hj]; exact fun e => g.ne j hj (swapR_inj e)
  · unfold swapF; split
    · have := swapR_bd hr h8 (G.x c).1 (g.px.2.1 c ‹_›); omega
    · exact G.x c
  · unfold swapF; split
    · have := swapR_bd hr h8 (G.o c).1 (g.po.2.1 c ‹_›); omega
    · exact G.o c
  · unfold swapF; rw [if_neg (by omega)]; exact G.zx j hj
  · unfold swapF; rw [if_neg (by omega)]; exact G.zo j hj
def src (i j : Nat) : Nat := if j ≤ i then j else j - 1
theorem growO_src {n i ρ : Nat} (hi : i < n) (hρ : ρ ≤ 1) {u : Int} (P Q : Nat → Int) (j : Nat) (hj : j ≤ n) (hb : j ≠ i + 1 - ρ) :
    (growO n P Q i ρ u).1 j = (if j = i + ρ then P i + 1 - u else lift1 (P i) (P (src i j))) ∧ (growO n P Q i ρ u).2 j = liftV (P i) u (Q (src i j)) := by
  obtain ⟨g1, g2, g3, g4, g5, g6, g7⟩ := growO_at (n := n) (i := i) hi hρ (u := u) P Q
  by_cases e : j = i + ρ
  · subst e
    rw [if_pos rfl, g1, g4, show src i (i + ρ) = i by unfold src; split <;> omega]
    exact ⟨by omega, rfl⟩
  · rw [if_neg e]
    rcases Nat.lt_or_ge j i with h | h
    · rw [show src i j = j by unfold src; rw [if_pos (by omega)]]
      exact g5 j h
    · obtain ⟨q, rfl⟩ : ∃ q, j = q + 1 := ⟨j - 1, by omega⟩
      rw [show src i (q + 1) = q by unfold src; rw [if_neg (by omega)]; omega]
      exact g6 q (by omega) (by omega)
theorem lift1_ne {r x : Int} (h : x ≠ r) : lift1 r x ≠ r ∧ lift1 r x ≠ r + 1 := by unfold lift1; split <;> omega
theorem lift1_inj {r x y : Int} (e : lift1 r x = lift1 r y) : x = y := by
  unfold lift1 at e; split at e <;> split at e <;> omega
theorem liftV_ne {r u x : Int} (hu : 0 ≤ u ∧ u ≤ 1) : liftV r u x ≠ r + 1 - u := by
  unfold liftV; split
  · omega
  · split <;> omega
theorem liftV_inj {r u x y : Int} (hu : 0 ≤ u ∧ u ≤ 1) (e : liftV r u x = liftV r u y) : x = y := by
  unfold liftV at e
  split at e
  · split at e
    · omega
    · split at e <;> omega
  · split at e
    · split at e
      · omega
      · split at e <;> omega
    · split at e
      · omega
      · split at e <;> omega
theorem lift1_V {r u x y : Int} (hu : 0 ≤ u ∧ u ≤ 1) (hx : x ≠ r) (hxy : x ≠ y) : lift1 r x ≠ liftV r u y := by
  unfold lift1 liftV
  split
  · split
    · omega
    · split <;> omega
  · split
    · omega
    · split <;> omega
theorem liftV_le {r u x m : Int} (hu : 0 ≤ u ∧ u ≤ 1) (hr : 0 ≤ r ∧ r < m) (hx : 0 ≤ x ∧ x < m) : 0 ≤ liftV r u x ∧ liftV r u x ≤ m := by
  unfold liftV
  split
  · omega
  · split <;> omega
theorem grow_perms {n i ρ : Nat} (hn : n < 8) (hi : i < n) (hρ : ρ ≤ 1) {u : Int} (hu : 0 ≤ u ∧ u ≤ 1) {P Q : Nat → Int} (hP : PermP 8 n P) (hQ : PermP 8 n Q) (p0 : ∀ j, 0 ≤ P j) (q0 : ∀ j, 0 ≤ Q j) (hne : ∀ c, c < n → P c ≠ Q c) :
    PermP 8 (n + 1) (growO n P Q i ρ u).1 ∧ PermP 8 (n + 1) (growO n P Q i ρ u).2 ∧ (∀ j, j < n + 1 → (growO n P Q i ρ u).1 j ≠ (growO n P Q i ρ u).2 j) ∧
    (∀ j, 0 ≤ (growO n P Q i ρ u).1 j ∧ (growO n P Q i ρ u).1 j ≤ n) ∧ (∀ j, 0 ≤ (growO n P Q i ρ u).2 j ∧ (growO n P Q i ρ u).2 j ≤ n) ∧ ∀ j, n < j → (growO n P Q i ρ u).1 j = 0 ∧ (growO n P Q i ρ u).2 j = 0 := by
  obtain ⟨g1, g2, g3, g4, g5, g6, g7⟩ := growO_at (n := n) (i := i) hi hρ (u := u) P Q
  have S := fun j hj hb => growO_src (n := n) (u := u) hi hρ P Q j hj hb
  have hr : 0 ≤ P i ∧ P i < n := ⟨p0 i, hP.2.1 i hi⟩
  have sl : ∀ j, j ≤ n → j ≠ i + 1 - ρ → src i j < n := fun j h1 h2 => by unfold src; split <;> omega
  have si : ∀ j, j ≤ n → j ≠ i + 1 - ρ → j ≠ i + ρ → src i j ≠ i := fun j h1 h2 h3 => by unfold src; split <;> omega
  have sj : ∀ a b, a ≠ i + 1 - ρ → b ≠ i + 1 - ρ → src i a = src i b → a = b := fun a b h1 h2 h => by unfold src at h; split at h <;> split at h <;> omega
  have ne : ∀ c, c < n → c ≠ i → P c ≠ P i := fun c h1 h2 e => h2 (hP.2.2 _ _ h1 hi e)
  have b1 : ∀ j, j ≤ n → 0 ≤ (growO n P Q i ρ u).1 j ∧ (growO n P Q i ρ u).1 j ≤ n := fun j hj => by
    by_cases e : j = i + 1 - ρ
    · rw [e, g2]; omega
    · rw [(S j hj e).1]
      split
      · omega
      · have := hP.2.1 _ (sl j hj e)
        have := p0 (src i j)
        unfold lift1; split <;> omega
  have b2 : ∀ j, j ≤ n → 0 ≤ (growO n P Q i ρ u).2 j ∧ (growO n P Q i ρ u).2 j ≤ n := fun j hj => by
    by_cases e : j = i + 1 - ρ
    · rw [e, g3]; omega
    · rw [(S j hj e).2]
      exact liftV_le hu hr ⟨q0 _, hQ.2.1 _ (sl j hj e)⟩
  refine ⟨⟨fun j h1 h2 => (g7 j (by omega)).1, fun j hj => by have := b1 j (by omega); omega, fun a b ha hb e => ?_⟩, ⟨fun j h1 h2 => (g7 j (by omega)).2, fun j hj => by have := b2 j (by omega); omega, fun a b ha hb e => ?_⟩, fun j hj => ?_, fun j => ?_, fun j => ?_, g7⟩
  · by_cases ea : a = i + 1 - ρ
    · by_cases eb : b = i + 1 - ρ
      · omega
      · rw [ea, g2, (S b (by omega) eb).1] at e
        split at e
        · omega
        · have := lift1_ne (ne _ (sl b (by omega) eb) (si b (by omega) eb ‹_›)); omega
    · by_cases eb : b = i + 1 - ρ
      · rw [eb, g2, (S a (by omega) ea).1] at e
        split at e
        · omega
        · have := lift1_ne (ne _ (sl a (by omega) ea) (si a (by omega) ea ‹_›)); omega
      · rw [(S a (by omega) ea).1, (S b (by omega) eb).1] at e
        split at e
        · split at e
          · omega
          · have := lift1_ne (ne _ (sl b (by omega) eb) (si b (by omega) eb ‹_›)); omega
        · split at e
          · have := lift1_ne (ne _ (sl a (by omega) ea) (si a (by omega) ea ‹_›)); omega
          · exact sj a b ea eb (hP.2.2 _ _ (sl a (by omega) ea) (sl b (by omega) eb) (lift1_inj e))
  · by_cases ea : a = i + 1 - ρ
    · by_cases eb : b = i + 1 - ρ
      · omega
      · rw [ea, g3, (S b (by omega) eb).2] at e
        exact absurd e.symm (by have := liftV_ne (r := P i) (x := Q (src i b)) hu; omega)
    · by_cases eb : b = i + 1 - ρ
      · rw [eb, g3, (S a (by omega) ea).2] at e
        exact absurd e (by have := liftV_ne (r := P i) (x := Q (src i a)) hu; omega)
      · rw [(S a (by omega) ea).2, (S b (by omega) eb).2] at e
        exact sj a b ea eb (hQ.2.2 _ _ (sl a (by omega) ea) (sl b (by omega) eb) (liftV_inj hu e))
  · by_cases e : j = i + 1 - ρ
    · rw [e, g2, g3]; omega
    · rw [(S j (by omega) e).1, (S j (by omega) e).2]
      split
      · exact fun h => liftV_ne hu h.symm
      · exact lift1_V hu (ne _ (sl j (by omega) e) (si j (by omega) e ‹_›)) (hne _ (sl j (by omega) e))
  · rcases Nat.lt_or_ge n j with h | h
    · rw [(g7 j h).1]; omega
    · exact b1 j h
  · rcases Nat.lt_or_ge n j with h | h
    · rw [(g7 j h).2]; omega
    · exact b2 j h
theorem grow_grid0 {n i ρ : Nat} (hn : n < 8) (hi : i < n) (hρ : ρ ≤ 1) {u : Int} (hu : 0 ≤ u ∧ u ≤ 1) {X O : Nat → Int} (G : GridZ n X O) : GridZ (n + 1) (growO n X O i ρ u).1 (growO n X O i ρ u).2 := by
  have g := G.g
  have h2 := g.lo
  obtain ⟨p1, p2, p3, p4, p5, p6⟩ := grow_perms hn hi hρ hu g.px g.po (fun j => (G.x j).1) (fun j => (G.o j).1) g.ne
  exact ⟨⟨by omega, by omega, p1, p2, p3⟩, fun c => by have := p4 c; omega, fun c => by have := p5 c; omega, fun j hj => (p6 j (by omega)).1, fun j hj => (p6 j (by omega)).2⟩
theorem grow_grid1 {n i ρ : Nat} (hn : n < 8) (hi : i < n) (hρ : ρ ≤ 1) {u : Int} (hu : 0 ≤ u ∧ u ≤ 1) {X O : Nat → Int} (G : GridZ n X O) : GridZ (n + 1) (growO n O X i ρ u).2 (growO n O X i ρ u).1 := by
  have g := G.g
  have h2 := g.lo
  obtain ⟨p1, p2, p3, p4, p5, p6⟩ := grow_perms hn hi hρ hu g.po g.px (fun j => (G.o j).1) (fun j => (G.x j).1) (fun c hc e => g.ne c hc e.symm)
  exact ⟨⟨by omega, by omega, p2, p1, fun j hj e => p3 j hj e.symm⟩, fun c => by have := p5 c; omega, fun c => by have := p4 c; omega, fun j hj => (p6 j (by omega)).2, fun j hj => (p6 j (by omega)).1⟩
theorem old_grid {n i : Nat} (h3 : 3 ≤ n) (hi : i + 1 < n) {r : Nat} (hr : r + 1 < n) {X O : Nat → Int} (G : GridZ n X O) {m ρ u : Nat} (hm : m ≤ 1) (hρ : ρ ≤ 1) (hu : u ≤ 1) (hf : FitM m X O i ρ r (u : Nat)) :
    GridZ (n - 1) (oldF n X (i + 1 - ρ) r) (oldF n O (i + 1 - ρ) r) := by
  have g := G.g
  have h8 := g.hi
  have x0 : ∀ j, 0 ≤ X j := fun j => (G.x j).1
  have o0 : ∀ j, 0 ≤ O j := fun j => (G.o j).1
  have b1 := oldF_bd (b := i + 1 - ρ) g.lo g.px x0 (r := r) (by omega)
  have b2 := oldF_bd (b := i + 1 - ρ) g.lo g.po o0 (r := r) (by omega)
  refine ⟨?_, fun c => by have := b1 c; omega, fun c => by have := b2 c; omega, fun j hj => oldF_zero j (by omega), fun j hj => oldF_zero j (by omega)⟩
  unfold FitM at hf
  rcases m01 hm with rfl | rfl
  · rw [if_pos rfl] at hf
    obtain ⟨p1, p2, p3, p4⟩ := fit_perms h3 (by omega) hi hρ g.px g.po g.ne x0 o0 (by omega) hf
    exact ⟨by omega, by omega, p1, p2, p3⟩
  · rw [if_neg (by omega)] at hf
    obtain ⟨p1, p2, p3, p4⟩ := fit_perms h3 (by omega) hi hρ g.po g.px (fun c hc e => g.ne c hc e.symm) o0 x0 (by omega) hf
    exact ⟨by omega, by omega, p2, p1, fun j hj e => p3 j hj e.symm⟩
end
end Go.AM

namespace Go.AM
section
variable {β : Type}
theorem s_swapC_val (z : β) (N : Nat) {i : Nat} (hi : i + 1 < 8) (X O : Nat → Int) (n : Int) (k : (Nat → Int) → (Nat → Int) → β) : s_l02SwapColumns z N n X O i k = k (swC i X) (swC i O) := by
  have t : ((i : Int) + 1).toNat = i + 1 := by omega
  unfold s_l02SwapColumns
  simp only [c_and, Int.toNat_natCast, t]
  simp (disch := omega) only [c_lt, c_le, c_blt, c_fits]
  rfl
theorem i_swapC_val (z : β) (N : Nat) {i : Nat} (hi : i + 1 < 8) (X O : Nat → Int) (n : Int) (k : (Nat → Int) → (Nat → Int) → β) : i_Grid_swapColumns z N n X O i k = k (swC i X) (swC i O) := by
  have t : ((i : Int) + 1).toNat = i + 1 := by omega
  unfold i_Grid_swapColumns
  simp only [c_and, Int.toNat_natCast, t]
  simp (disch := omega) only [c_lt, c_le, c_blt, c_fits]
  rfl
theorem s_cols_val (z : β) (N : Nat) {n : Nat} {X O : Nat → Int} (g : GridP n X O) {i : Nat} (hi : i + 1 < n) (k : Bool → β) : s_l02Columns z N n X O i k = k (apart2 (X i) (O i) (X (i + 1)) (O (i + 1))) := by
  have h8 := g.hi
  have t : ((i : Int) + 1).toNat = i + 1 := by omega
  unfold s_l02Columns
  simp only [c_and, Int.toNat_natCast, t]
  simp (disch := omega) only [c_lt, c_le, c_blt, c_fits]
  rw [s_l02Free_val z N (g.ne i (by omega)) (g.ne (i + 1) hi)]
theorem i_cols_val (z : β) (N : Nat) {n : Nat} {X O : Nat → Int} (g : GridP n X O) {i : Nat} (hi : i + 1 < n) (k : Bool → β) : i_Grid_canColumns z N n X O i k = k (apart2 (X i) (O i) (X (i + 1)) (O (i + 1))) := by
  have h8 := g.hi
  have t : ((i : Int) + 1).toNat = i + 1 := by omega
  unfold i_Grid_canColumns
  simp only [c_and, Int.toNat_natCast, t]
  simp (disch := omega) only [c_lt, c_le, c_blt, c_fits]
  rw [i_areApart_val]
theorem i_pair2 (z : β) {N : Nat} (hN : 8 < N) {n : Nat} {X O : Nat → Int} (g : GridP n X O) (hX : ∀ j, 0 ≤ X j) (hO : ∀ j, 0 ≤ O j) (i r : Int) (k : Int → β) :
    i_isPair_s2 z N n X O (((List.replicate 2 0).set 0 i).set 1 r) k = cond (decide (0 ≤ i ∧ i ≤ (n : Int) - 2)) (cond (decide (0 ≤ r ∧ r ≤ (n : Int) - 2)) (k 0) (k 2)) (k 2) := by
  have h8 := g.hi
  unfold i_isPair_s2
  rw [i_IsGrid_val z hN _ _ _ hX hO, gridB_iff.mpr ⟨n, rfl, g⟩, Bool.not_true, c_false]
  obtain ⟨N, rfl⟩ : ∃ M, N = M + 3 := ⟨N - 3, by omega⟩
  have e : (((List.replicate 2 (0 : Int)).set 0 i).set 1 r).length = 2 := by simp
  rw [i_isPair_l0_s2, i_isPair_l0_s2_s, e]
  simp only [c_and, i_within_val]
  simp (disch := omega) only [c_lt, c_le, c_blt, c_fits, c_beq]
  rw [show (((List.replicate 2 (0 : Int)).set 0 i).set 1 r)[Int.toNat 0]?.getD 0 = i from rfl]
  by_cases h : 0 ≤ i ∧ i ≤ (n : Int) - 2
  · rw [decide_eq_true h, Bool.not_true, c_false, c_true]
    rw [show (0 : Int) + 1 = 1 from rfl, i_isPair_l0_s2, i_isPair_l0_s2_s, e]
    simp only [c_and, i_within_val]
    simp (disch := omega) only [c_lt, c_le, c_blt, c_fits, c_beq]
    rw [show (((List.replicate 2 (0 : Int)).set 0 i).set 1 r)[Int.toNat 1]?.getD 0 = r from rfl]
    by_cases h' : 0 ≤ r ∧ r ≤ (n : Int) - 2
    · rw [decide_eq_true h', Bool.not_true, c_false, c_true]
      rw [show (1 : Int) + 1 = 2 from rfl, i_isPair_l0_s2, i_isPair_l0_s2_s, c_nlt (by omega)]
    · rw [decide_eq_false h', Bool.not_false, c_true, c_false]
  · rw [decide_eq_false h, Bool.not_false, c_true, c_false]
def mE0 (a1 : Nat → Int) : Bool := a1 0 == upd (fun (x : Nat) => 0) 1 (a1 1) 0 && (a1 1 == upd (fun (x : Nat) => 0) 1 (a1 1) 1 && (a1 2 == upd (fun (x : Nat) => 0) 1 (a1 1) 2 && (a1 3 == upd (fun (x : Nat) => 0) 1 (a1 1) 3 && (a1 4 == upd (fun (x : Nat) => 0) 1 (a1 1) 4 && (a1 5 == upd (fun (x : Nat) => 0) 1 (a1 1) 5 && true)))))
def mE1 (a1 : Nat → Int) : Bool := a1 0 == upd (upd (fun (x : Nat) => 0) 0 1) 2 (a1 2) 0 && (a1 1 == upd (upd (fun (x : Nat) => 0) 0 1) 2 (a1 2) 1 && (a1 2 == upd (upd (fun (x : Nat) => 0) 0 1) 2 (a1 2) 2 && (a1 3 == upd (upd (fun (x : Nat) => 0) 0 1) 2 (a1 2) 3 && (a1 4 == upd (upd (fun (x : Nat) => 0) 0 1) 2 (a1 2) 4 && (a1 5 == upd (upd (fun (x : Nat) => 0) 0 1) 2 (a1 2) 5 && true)))))
def mE3 (a1 : Nat → Int) : Bool := a1 0 == upd (upd (upd (fun (x : Nat) => 0) 0 3) 1 (a1 1)) 2 (a1 2) 0 && (a1 1 == upd (upd (upd (fun (x : Nat) => 0) 0 3) 1 (a1 1)) 2 (a1 2) 1 && (a1 2 == upd (upd (upd (fun (x : Nat) => 0) 0 3) 1 (a1 1)) 2 (a1 2) 2 && (a1 3 == upd (upd (upd (fun (x : Nat) => 0) 0 3) 1 (a1 1)) 2 (a1 2) 3 && (a1 4 == upd (upd (upd (fun (x : Nat) => 0) 0 3) 1 (a1 1)) 2 (a1 2) 4 && (a1 5 == upd (upd (upd (fun (x : Nat) => 0) 0 3) 1 (a1 1)) 2 (a1 2) 5 && true)))))
/-- Both sides tell alike whether a move fits, and what it makes. -/
theorem move_both (z : β) {N : Nat} (hN : 8 < N) {n : Nat} {X O : Nat → Int} (G : GridZ n X O) (a : Nat → Int) :
    ∃ b : Bool, (∀ k, s_l02Fits z N n X O a k = k b) ∧ (∀ k, i_Grid_fits z N n X O a k = k b) ∧ (b = true → ∃ (n' : Nat) (X' O' : Nat → Int), (∀ k, s_l02Apply z N n X O a k = k n' X' O') ∧ (∀ k, i_Grid_moved z N n X O a k = k n' X' O') ∧ GridZ n' X' O') := by
  have g := G.g
  have h8 := g.hi
  have h2 := g.lo
  have x0 : ∀ j, 0 ≤ X j := fun j => (G.x j).1
  have o0 : ∀ j, 0 ≤ O j := fun j => (G.o j).1
  by_cases a0 : a 0 = 0
  · have s : ∀ k, s_l02Fits z N n X O a k = cond (mE0 a) (cond (decide (0 ≤ a 1 ∧ a 1 ≤ (n : Int) - 2)) (s_l02Columns z N n X O (a 1) k) (k false)) (k false) := fun k => by
      unfold s_l02Fits
      rw [c_eq a0, c_fits (by omega), s_l01In_val]
      rfl
    have t : ∀ k, i_Grid_fits z N n X O a k = cond (mE0 a) (cond (decide (0 ≤ a 1 ∧ a 1 ≤ (n : Int) - 2)) (i_Grid_canColumns z N n X O (a 1) k) (k false)) (k false) := fun k => by
      unfold i_Grid_fits
      rw [c_eq a0, c_fits (by omega), i_within_val]
      rfl
    cases hE : mE0 a with
    | false => exact ⟨false, fun k => by rw [s, hE]; rfl, fun k => by rw [t, hE]; rfl, fun h => by cases h⟩
    | true =>
      by_cases h : 0 ≤ a 1 ∧ a 1 ≤ (n : Int) - 2
      · obtain ⟨i, hi⟩ : ∃ i : Nat, a 1 = i := ⟨(a 1).toNat, by omega⟩
        refine ⟨apart2 (X i) (O i) (X (i + 1)) (O (i + 1)), fun k => ?_, fun k => ?_, fun _ => ⟨n, swC i X, swC i O, fun k => ?_, fun k => ?_, swC_grid (by omega) G⟩⟩
        · rw [s, hE, decide_eq_true h, hi, s_cols_val z N g (by omega)]; rfl
        · rw [t, hE, decide_eq_true h, hi, i_cols_val z N g (by omega)]; rfl
        · unfold s_l02Apply; rw [c_eq a0, hi, s_swapC_val z N (by omega)]
        · unfold i_Grid_moved; rw [c_eq a0, hi, i_swapC_val z N (by omega)]
      · exact ⟨false, fun k => by rw [s, hE, decide_eq_false h]; rfl, fun k => by rw [t, hE, decide_eq_false h]; rfl, fun h => by cases h⟩
  by_cases a1 : a 0 = 1
  · have s : ∀ k, s_l02Fits z N n X O a k = cond (mE1 a) (cond (decide (0 ≤ a 2 ∧ a 2 ≤ (n : Int) - 2)) (s_l02Rows z N n X O (a 2) k) (k false)) (k false) := fun k => by
      unfold s_l02Fits
      rw [c_neq a0, c_eq a1, c_fits (by omega), s_l01In_val]
      rfl
    have t : ∀ k, i_Grid_fits z N n X O a k = cond (mE1 a) (cond (decide (0 ≤ a 2 ∧ a 2 ≤ (n : Int) - 2)) (i_Grid_canRows z N n X O (a 2) k) (k false)) (k false) := fun k => by
      unfold i_Grid_fits
      rw [c_neq a0, c_eq a1, c_fits (by omega), i_within_val]
      rfl
    cases hE : mE1 a with
    | false => exact ⟨false, fun k => by rw [s, hE]; rfl, fun k => by rw [t, hE]; rfl, fun h => by cases h⟩
    | true =>
      by_cases h : 0 ≤ a 2 ∧ a 2 ≤ (n : Int) - 2
      · obtain ⟨i, hi⟩ : ∃ i : Nat, a 2 = i := ⟨(a 2).toNat, by omega⟩
        refine ⟨rowsB n X O i, fun k => ?_, fun k => ?_, fun _ => ⟨n, swapF n i X, swapF n i O, fun k => ?_, fun k => ?_, swapF_grid (by omega) G⟩⟩
        · rw [s, hE, decide_eq_true h, hi, s_l02Rows_val z hN g x0 o0 (by omega)]; rfl
        · rw [t, hE, decide_eq_true h, hi, i_Grid_canRows_val z hN g x0 o0 (by omega)]; rfl
        · unfold s_l02Apply; rw [c_neq a0, c_eq a1, hi, s_l02SwapRows_val z hN h8 _ _ (by omega)]
        · unfold i_Grid_moved; rw [c_neq a0, c_eq a1, hi, i_Grid_swapRows_val z hN g x0 o0 G.zx G.zo (by omega)]
      · exact ⟨false, fun k => by rw [s, hE, decide_eq_false h]; rfl, fun k => by rw [t, hE, decide_eq_false h]; rfl, fun h => by cases h⟩
  by_cases a2 : a 0 = 2
  · have s : ∀ k, s_l02Fits z N n X O a k = k (decide ((n : Int) < 8 ∧ a 2 = 0 ∧ (0 ≤ a 1 ∧ a 1 ≤ (n : Int) - 1) ∧ (0 ≤ a 3 ∧ a 3 ≤ 1) ∧ (0 ≤ a 4 ∧ a 4 ≤ 1) ∧ (0 ≤ a 5 ∧ a 5 ≤ 1))) := fun k => by
      unfold s_l02Fits
      rw [c_neq a0, c_neq a1, c_eq a2]
      simp only [s_l01In_val]
      rw [c_fits (by omega)]
      by_cases p1 : (n : Int) < 8
      · rw [c_lt p1]
        by_cases p2 : a 2 = 0
        · rw [c_eq p2]
          by_cases p3 : 0 ≤ a 1 ∧ a 1 ≤ (n : Int) - 1 <;> by_cases p4 : 0 ≤ a 3 ∧ a 3 ≤ 1 <;> by_cases p5 : 0 ≤ a 4 ∧ a 4 ≤ 1 <;> by_cases p6 : 0 ≤ a 5 ∧ a 5 ≤ 1 <;> simp [p1, p2, p3, p4, p5, p6]
        · rw [c_neq p2]; simp [p2]
      · rw [c_nlt (by omega)]; simp [p1]
    have t : ∀ k, i_Grid_fits z N n X O a k = k (decide ((n : Int) < 8 ∧ a 2 = 0 ∧ (0 ≤ a 1 ∧ a 1 ≤ (n : Int) - 1) ∧ (0 ≤ a 3 ∧ a 3 ≤ 1) ∧ (0 ≤ a 4 ∧ a 4 ≤ 1) ∧ (0 ≤ a 5 ∧ a 5 ≤ 1))) := fun k => by
      unfold i_Grid_fits
      rw [c_neq a0, c_neq a1, c_eq a2]
      simp only [i_within_val]
      rw [c_fits (by omega)]
      by_cases p2 : a 2 = 0
      · rw [c_eq p2]
        by_cases p1 : (n : Int) < 8
        · rw [c_lt p1]
          by_cases p3 : 0 ≤ a 1 ∧ a 1 ≤ (n : Int) - 1 <;> by_cases p4 : 0 ≤ a 3 ∧ a 3 ≤ 1 <;> by_cases p5 : 0 ≤ a 4 ∧ a 4 ≤ 1 <;> by_cases p6 : 0 ≤ a 5 ∧ a 5 ≤ 1 <;> simp [p1, p2, p3, p4, p5, p6]
        · rw [c_nlt (by omega)]; simp [p1]
      · rw [c_neq p2]; simp [p2]
    refine ⟨_, s, t, fun hb => ?_⟩
    obtain ⟨p1, p2, p3, p4, p5, p6⟩ := of_decide_eq_true hb
    obtain ⟨i, hi⟩ : ∃ i : Nat, a 1 = i := ⟨(a 1).toNat, by omega⟩
    obtain ⟨ρ, hρ⟩ : ∃ i : Nat, a 4 = i := ⟨(a 4).toNat, by omega⟩
    have bX : ∀ c, c < n → 0 ≤ X c ∧ X c < n := fun c hc => ⟨x0 c, g.px.2.1 c hc⟩
    have bO : ∀ c, c < n → 0 ≤ O c ∧ O c < n := fun c hc => ⟨o0 c, g.po.2.1 c hc⟩
    have hm : a 3 = 0 ∨ a 3 = 1 := by omega
    have q0 : upd (upd (upd (upd (fun (x : Nat) => (0 : Int)) 0 (a 1)) 1 (a 3)) 2 (a 4)) 3 (a 5) 0 = i := hi
    have q2 : upd (upd (upd (upd (fun (x : Nat) => (0 : Int)) 0 (a 1)) 1 (a 3)) 2 (a 4)) 3 (a 5) 2 = ρ := hρ
    have q3 : upd (upd (upd (upd (fun (x : Nat) => (0 : Int)) 0 (a 1)) 1 (a 3)) 2 (a 4)) 3 (a 5) 3 = a 5 := rfl
    rcases hm with hm | hm
    · refine ⟨n + 1, (growO n X O i ρ (a 5)).1, (growO n X O i ρ (a 5)).2, fun k => ?_, fun k => ?_, grow_grid0 (by omega) (by omega) (by omega) p6 G⟩
      · unfold s_l02Apply
        rw [c_neq a0, c_neq a1, c_eq a2, hi, hm, hρ, s_l02Stabilize_val0 z hN (by omega) (by omega) (by omega) p6 bX bO, stab_grow (by omega) (by omega) g.px.2.2]; rfl
      · unfold i_Grid_moved i_Move_growth
        rw [c_neq a0, c_neq a1, c_eq a2]
        exact (i_Grid_grown_val0 z (i := i) (right := ρ) (u := a 5) hN (by omega) (by omega) (by omega) p6 bX bO q0 hm q2 q3 _)
    · refine ⟨n + 1, (growO n O X i ρ (a 5)).2, (growO n O X i ρ (a 5)).1, fun k => ?_, fun k => ?_, grow_grid1 (by omega) (by omega) (by omega) p6 G⟩
      · unfold s_l02Apply
        rw [c_neq a0, c_neq a1, c_eq a2, hi, hm, hρ, s_l02Stabilize_val1 z hN (by omega) (by omega) (by omega) p6 bX bO, stab_grow (by omega) (by omega) g.po.2.2]; rfl
      · unfold i_Grid_moved i_Move_growth
        rw [c_neq a0, c_neq a1, c_eq a2]
        exact (i_Grid_grown_val1 z (i := i) (right := ρ) (u := a 5) hN (by omega) (by omega) (by omega) p6 bX bO q0 hm q2 q3 _)
  by_cases a3 : a 0 = 3
  · have s : ∀ k, s_l02Fits z N n X O a k = cond (!mE3 a) (k false) (cond (decide (0 ≤ a 1 ∧ a 1 ≤ (n : Int) - 2)) (cond (decide (0 ≤ a 2 ∧ a 2 ≤ (n : Int) - 2)) (s_l02Back z N n X O (a 1) (a 2) (fun q9 q10 q11 q12 q13 => k q13)) (k false)) (k false)) := fun k => by
      unfold s_l02Fits
      rw [c_neq a0, c_neq a1, c_neq a2, c_eq a3]
      simp only [s_l01In_val]
      rw [c_fits (by omega), c_fits (by omega)]
      simp only [c_not]
      rfl
    have t : ∀ k, i_Grid_fits z N n X O a k = cond (!mE3 a) (k false) (cond (decide (0 ≤ a 1 ∧ a 1 ≤ (n : Int) - 2)) (cond (decide (0 ≤ a 2 ∧ a 2 ≤ (n : Int) - 2)) (i_Grid_shrunk z N n X O (a 1) (a 2) (fun q9 q10 q11 q12 q13 => k q13)) (k false)) (k false)) := fun k => by
      unfold i_Grid_fits i_CanDestabilize
      rw [c_neq a0, c_neq a1, c_neq a2, c_eq a3, i_pair2 z hN g x0 o0]
      simp only [show ((0 : Int) != 0) = false from rfl, show ((2 : Int) != 0) = true from rfl, c_false, c_true]
      rfl
    cases hE : mE3 a with
    | false => exact ⟨false, fun k => by rw [s, hE]; rfl, fun k => by rw [t, hE]; rfl, fun h => by cases h⟩
    | true =>
      by_cases h : 0 ≤ a 1 ∧ a 1 ≤ (n : Int) - 2
      · by_cases h' : 0 ≤ a 2 ∧ a 2 ≤ (n : Int) - 2
        · obtain ⟨i, hi⟩ : ∃ i : Nat, a 1 = i := ⟨(a 1).toNat, by omega⟩
          obtain ⟨r, hr⟩ : ∃ i : Nat, a 2 = i := ⟨(a 2).toNat, by omega⟩
          by_cases hA : 3 ≤ n ∧ Any X O i r
          · obtain ⟨h3, m, ρ, u, u1, u2, u3, hf⟩ := hA
            obtain ⟨mv, e1⟩ := s_back_hit z hN h3 h8 (by omega) (by omega) G.x G.o g.px g.po u1 u2 u3 hf
            obtain ⟨mv', e2⟩ := i_shrunk_hit z hN h3 (by omega) (by omega) g G.x G.o u1 u2 u3 hf
            refine ⟨true, fun k => ?_, fun k => ?_, fun _ => ⟨n - 1, oldF n X (i + 1 - ρ) r, oldF n O (i + 1 - ρ) r, fun k => ?_, fun k => ?_, old_grid h3 (by omega) (by omega) G u1 u2 u3 hf⟩⟩
            · rw [s, hE, decide_eq_true h, decide_eq_true h', hi, hr, e1]; rfl
            · rw [t, hE, decide_eq_true h, decide_eq_true h', hi, hr, e2]; rfl
            · unfold s_l02Apply; rw [c_neq a0, c_neq a1, c_neq a2, hi, hr, e1, show ((n - 1 : Nat) : Int) = (n : Int) - 1 by omega]
            · unfold i_Grid_moved; rw [c_neq a0, c_neq a1, c_neq a2, hi, hr, e2, show ((n - 1 : Nat) : Int) = (n : Int) - 1 by omega]
          · refine ⟨false, fun k => ?_, fun k => ?_, fun h => by cases h⟩
            · rw [s, hE, decide_eq_true h, decide_eq_true h', hi, hr, s_back_miss z hN h8 (by omega) (by omega) G.x G.o g.px g.po hA]; rfl
            · rw [t, hE, decide_eq_true h, decide_eq_true h', hi, hr, i_shrunk_miss z hN (by omega) (by omega) g G.x G.o hA]; rfl
        · exact ⟨false, fun k => by rw [s, hE, decide_eq_true h, decide_eq_false h']; rfl, fun k => by rw [t, hE, decide_eq_true h, decide_eq_false h']; rfl, fun h => by cases h⟩
      · exact ⟨false, fun k => by rw [s, hE, decide_eq_false h]; rfl, fun k => by rw [t, hE, decide_eq_false h]; rfl, fun h => by cases h⟩
  refine ⟨false, fun k => ?_, fun k => ?_, fun h => by cases h⟩
  · unfold s_l02Fits; rw [c_neq a0, c_neq a1, c_neq a2, c_neq a3]
  · unfold i_Grid_fits; rw [c_neq a0, c_neq a1, c_neq a2, c_neq a3]
theorem w_FnExactApplyMove_val (z : β) {N : Nat} (hN : 8 < N) (n : Int) (X O : Nat → Int) (a : Nat → Int) (hX : ∀ j, j < 8 → 0 ≤ X j ∧ X j ≤ 255) (hO : ∀ j, j < 8 → 0 ≤ O j ∧ O j ≤ 255) (k0 : Bool → β) : w_FnExactApplyMove z N n X O a k0 = k0 true := by
  unfold w_FnExactApplyMove
  have hX0 := clip8_nn fun j h => (hX j h).1
  have hO0 := clip8_nn fun j h => (hO j h).1
  have hX1 := clip8_le fun j h => (hX j h).2
  have hO1 := clip8_le fun j h => (hO j h).2
  simp only [w_toGrid_val z hN, s_ApplyMove, i_ApplyMove, i_RunMoves, s_l02Code, w_toMove, s_l01Is_val z hN _ _ _ hX0 hO0, i_IsGrid_val z hN _ _ _ hX0 hO0]
  cases hg : gridB n (clip8 X) (clip8 O) with
  | false =>
    simp only [Bool.not_false, c_true, show ((1 : Int) != 0) = true from rfl]
    rw [w_eqGrid_refl z hN]
    rfl
  | true =>
    obtain ⟨m, rfl, g⟩ := gridB_iff.1 hg
    have G : GridZ m (clip8 X) (clip8 O) := ⟨g, fun c => ⟨hX0 c, by have := hX1 c; omega⟩, fun c => ⟨hO0 c, by have := hO1 c; omega⟩, fun j h => if_neg (by omega), fun j h => if_neg (by omega)⟩
    simp only [Bool.not_true, c_false]
    obtain ⟨N, rfl⟩ : ∃ M, N = M + 2 := ⟨N - 2, by omega⟩
    have sh : ∀ f : Nat → Int, shiftF f (Int.toNat 0 * 6) = f := fun f => rfl
    generalize upd (upd (upd (upd (upd (upd (fun (x : Nat) => (0 : Int)) 0 (a 0)) 1 (a 1)) 2 (a 2)) 3 (a 3)) 4 (a 4)) 5 (a 5) = v
    obtain ⟨b, s, t, mv⟩ := move_both z hN G v
    rw [s]
    cases b with
    | false =>
      simp only [Bool.not_false, c_true, show ((5 : Int) != 0) = true from rfl]
      rw [i_RunMoves_l0, i_RunMoves_l0_s, c_lt (by omega)]
      simp only [c_and]
      rw [c_le (by omega), c_lt (by omega), c_ble (by decide), sh, t]
      simp only [Bool.not_false, c_true]
      rw [w_eqGrid_refl z hN]
      rfl
    | true =>
      obtain ⟨n', X', O', e1, e2, _⟩ := mv rfl
      simp only [Bool.not_true, c_false, show ((0 : Int) != 0) = false from rfl]
      rw [e1, i_RunMoves_l0, i_RunMoves_l0_s, c_lt (by omega)]
      simp only [c_and]
      rw [c_le (by omega), c_lt (by omega), c_ble (by decide), sh, t]
      simp only [Bool.not_true, c_false]
      rw [e2, c_fits (by omega), show (0 : Int) + 1 = 1 from rfl, i_RunMoves_l0, i_RunMoves_l0_s, c_nlt (by omega), w_eqGrid_refl z hN]
      rfl
end
end Go.AM
