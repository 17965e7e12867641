/- A part of a proof about the given program: an abstract machine, what the given functions come to, and plain laws. -/
import Derived.Test.YtoginabccpjeoaaPallLawCorners1
import Derived.Test.YtoginabccpjeoaaDallLawCorners1
set_option linter.unusedVariables false
set_option linter.unusedSimpArgs false
namespace Go.AM
section
variable {β : Type}
def turnF (n : Nat) (X O : Nat -> Int) (i : Nat) (s : (Nat -> Int) × (Nat -> Int)) : (Nat -> Int) × (Nat -> Int) :=
  (upd s.1 ((n : Int) - 1 - O i).toNat (i : Int), upd s.2 ((n : Int) - 1 - X i).toNat (i : Int))
def turnS (n : Nat) (X O : Nat -> Int) : (Nat -> Int) × (Nat -> Int) := iter (turnF n X O) n 0 (fun _ => 0, fun _ => 0)
theorem wrap8 {t : Nat} (h : t < 256) : wrapU .u8 (t : Int) = t := by
  show (t : Int) % 256 = t
  omega
theorem s_QuarterTurn_val (z : β) {N n : Nat} (hN : 8 < N) {X O : Nat -> Int} (g : GridP n X O) (hX : ∀ j, 0 <= X j) (hO : ∀ j, 0 <= O j) (k : Int -> (Nat -> Int) -> (Nat -> Int) -> Int -> β) :
    s_QuarterTurn z N n X O k = k n (turnS n X O).1 (turnS n X O).2 0 := by
  have h8 := g.hi
  unfold s_QuarterTurn
  rw [s_l01Is_val z hN _ _ _ hX hO, gridB_iff.2 ⟨n, rfl, g⟩]
  simp only [Bool.not_true, c_false]
  exact up_to (L := fun m i s => s_QuarterTurn_l0 z n n X O 0 (fun _ => 0) (fun _ => 0) n m (i : Int) s.1 s.2 fun q7 q8 => k n q7 q8 0) (n := n) (out := fun s => k n s.1 s.2 0) (f := turnF n X O) (I := fun _ _ => True)
    (fun m i s hi _ => ⟨by
      have b1 := g.bdX hX hi
      have b2 := g.swap.bdX hO hi
      simp only [s_QuarterTurn_l0, s_QuarterTurn_l0_s, c_and, Int.toNat_natCast, wrap8 (t := i) (by omega)]
      simp (disch := omega) only [c_lt, c_le, c_blt, c_fits]
      rfl, trivial⟩)
    (fun m s _ => by simp (disch := omega) only [s_QuarterTurn_l0, s_QuarterTurn_l0_s, c_nlt]) n N 0 (fun _ => 0, fun _ => 0) (by omega) (by omega) trivial
theorem i_Grid_quarter_val (z : β) {N n : Nat} (hN : 8 < N) {X O : Nat -> Int} (g : GridP n X O) (hX : ∀ j, 0 <= X j) (hO : ∀ j, 0 <= O j) (k : (Nat -> Int) -> (Nat -> Int) -> β) :
    i_Grid_quarter z N n X O k = k (turnS n X O).1 (turnS n X O).2 := by
  have h8 := g.hi
  unfold i_Grid_quarter i_Grid_led_s4 i_Grid_n
  rw [c_true]
  exact up_to (L := fun m i s => i_Grid_led_l0_s7 z N n n X O n X O 0 (fun _ => 0) (fun _ => 0) n m (i : Int) s.1 s.2 fun q10 q11 => k q10 q11) (n := n) (out := fun s => k s.1 s.2) (f := turnF n X O) (I := fun _ _ => True)
    (fun m i s hi _ => ⟨by
      have b1 := g.bdX hX hi
      have b2 := g.swap.bdX hO hi
      simp only [i_Grid_led_l0_s7, i_Grid_led_l0_s7_s, i_Grid_quarter_1, i_Grid_n, c_and, Int.toNat_natCast, wrap8 (t := i) (by omega)]
      simp (disch := omega) only [c_lt, c_le, c_blt, c_fits]
      rfl, trivial⟩)
    (fun m s _ => by simp (disch := omega) only [i_Grid_led_l0_s7, i_Grid_led_l0_s7_s, c_nlt]) n N 0 (fun _ => 0, fun _ => 0) (by omega) (by omega) trivial
theorem turn_half {n : Nat} {Y : Nat -> Int} (h : PermP 8 n Y) (hY : ∀ j, 0 <= Y j) {s : Nat -> Int} (hs : s = iter (fun i s => upd s ((n : Int) - 1 - Y i).toNat (i : Int)) n 0 (fun _ => 0)) :
    (∀ r, r < n -> s r = rowOf n Y (n - 1 - r)) ∧ ∀ r, n <= r -> s r = 0 := by
  have key := iter_inv (f := fun i (s : Nat -> Int) => upd s ((n : Int) - 1 - Y i).toNat (i : Int)) (n := n) (I := fun i s => (∀ j, j < i -> s ((n : Int) - 1 - Y j).toNat = j) ∧ ∀ r, n <= r -> s r = 0) (fun i s hi ⟨h1, h2⟩ => by
    have a1 := h.2.1 i hi
    have a2 := hY i
    refine ⟨fun j hj => ?_, fun r hr => ?_⟩
    · rw [upd_at]
      by_cases e : j = i
      · subst e; rw [if_pos rfl]
      · have b1 := h.2.1 j (by omega)
        have b2 := hY j
        rw [if_neg (fun e' => e (h.2.2 j i (by omega) hi (by omega)))]
        exact h1 j (by omega)
    · rw [upd_at, if_neg (by omega)]; exact h2 r hr) n 0 (fun _ => 0) (by omega) ⟨fun j hj => by omega, fun _ _ => rfl⟩
  rw [Nat.zero_add, <- hs] at key
  refine ⟨fun r hr => ?_, key.2⟩
  obtain ⟨e1, e2⟩ := rowOf_spec h hY (r := n - 1 - r) (by omega)
  have := key.1 _ e1
  rw [e2, show ((n : Int) - 1 - ((n - 1 - r : Nat) : Int)).toNat = r by omega] at this
  exact this
theorem turnS_parts (n : Nat) (X O : Nat -> Int) : (turnS n X O).1 = iter (fun i s => upd s ((n : Int) - 1 - O i).toNat (i : Int)) n 0 (fun _ => 0) ∧ (turnS n X O).2 = iter (fun i s => upd s ((n : Int) - 1 - X i).toNat (i : Int)) n 0 (fun _ => 0) := by
  have key : ∀ (d i : Nat) (s : (Nat -> Int) × (Nat -> Int)), (iter (turnF n X O) d i s).1 = iter (fun i s => upd s ((n : Int) - 1 - O i).toNat (i : Int)) d i s.1 ∧ (iter (turnF n X O) d i s).2 = iter (fun i s => upd s ((n : Int) - 1 - X i).toNat (i : Int)) d i s.2 := by
    intro d
    induction d with
    | zero => exact fun i s => ⟨rfl, rfl⟩
    | succ d ih => exact fun i s => ih (i + 1) _
  exact key n 0 _
theorem rowOf_inj {n : Nat} {Y : Nat -> Int} (h : PermP 8 n Y) (hY : ∀ j, 0 <= Y j) {a b : Nat} (ha : a < n) (hb : b < n) (e : rowOf n Y a = rowOf n Y b) : a = b := by
  have e1 := (rowOf_spec h hY ha).2
  have e2 := (rowOf_spec h hY hb).2
  rw [e, e2] at e1
  omega
theorem turn_grid {n : Nat} {X O : Nat -> Int} (g : GridP n X O) (hX : ∀ j, 0 <= X j) (hO : ∀ j, 0 <= O j) : GridP n (turnS n X O).1 (turnS n X O).2 ∧ (∀ j, 0 <= (turnS n X O).1 j) ∧ ∀ j, 0 <= (turnS n X O).2 j := by
  obtain ⟨p1, p2⟩ := turnS_parts n X O
  obtain ⟨a1, a2⟩ := turn_half g.po hO p1
  obtain ⟨b1, b2⟩ := turn_half g.px hX p2
  have perm : ∀ {Y s : Nat -> Int}, PermP 8 n Y -> (∀ j, 0 <= Y j) -> (∀ r, r < n -> s r = rowOf n Y (n - 1 - r)) -> (∀ r, n <= r -> s r = 0) -> PermP 8 n s := by
    intro Y s hY hY0 h1 h2
    refine ⟨fun j hj _ => h2 j hj, fun j hj => ?_, fun i j hi hj e => ?_⟩
    · rw [h1 j hj]
      have := (rowOf_spec hY hY0 (r := n - 1 - j) (by omega)).1
      omega
    · rw [h1 i hi, h1 j hj] at e
      have := rowOf_inj hY hY0 (a := n - 1 - i) (b := n - 1 - j) (by omega) (by omega) (by omega)
      omega
  have nn : ∀ {Y s : Nat -> Int}, (∀ r, r < n -> s r = rowOf n Y (n - 1 - r)) -> (∀ r, n <= r -> s r = 0) -> ∀ j, 0 <= s j := by
    intro Y s h1 h2 j
    by_cases hj : j < n
    · rw [h1 j hj]; omega
    · rw [h2 j (by omega)]; omega
  refine ⟨⟨g.lo, g.hi, perm g.po hO a1 a2, perm g.px hX b1 b2, fun i hi e => ?_⟩, nn a1 a2, nn b1 b2⟩
  rw [a1 i hi, b1 i hi] at e
  have e1 := rowOf_spec g.po hO (r := n - 1 - i) (by omega)
  have e2 := rowOf_spec g.px hX (r := n - 1 - i) (by omega)
  have := g.ne _ e1.1
  rw [e1.2, show rowOf n O (n - 1 - i) = rowOf n X (n - 1 - i) by omega, e2.2] at this
  exact this rfl
abbrev TurnSt := (Nat -> Int) × (Nat -> Int) × List (List Int)
noncomputable def turnNF (n : Nat) (_ : Nat) (s : TurnSt) : TurnSt := ((turnS n s.1 s.2.1).1, (turnS n s.1 s.2.1).2, s.2.2 ++ [[tbS n s.1 s.2.1, rotS n s.1 s.2.1]])
noncomputable def turnT (n : Nat) (X O : Nat -> Int) : List (List Int) := (iter (turnNF n) 4 0 ((X, O, []) : TurnSt)).2.2
structure TurnI (n i : Nat) (s : TurnSt) : Prop where
  g : GridP n s.1 s.2.1
  x : ∀ j, 0 <= s.1 j
  o : ∀ j, 0 <= s.2.1 j
  len : s.2.2.length = i
  row : ∀ j, j < i -> (rowAt s.2.2 j).length = 2
theorem TurnI.step {n i : Nat} {s : TurnSt} (h : TurnI n i s) : TurnI n (i + 1) (turnNF n i s) := by
  obtain ⟨g1, g2, g3⟩ := turn_grid h.g h.x h.o
  refine ⟨g1, g2, g3, by unfold turnNF; rw [len1, h.len], fun j hj => ?_⟩
  unfold turnNF rowAt
  simp only
  have := h.len
  by_cases e : j = i
  · subst e; rw [List.getElem?_append_right (by omega), this, Nat.sub_self]; rfl
  · rw [List.getElem?_append_left (by omega)]; exact h.row j (by omega)
theorem turnT_inv {n : Nat} {X O : Nat -> Int} (g : GridP n X O) (hX : ∀ j, 0 <= X j) (hO : ∀ j, 0 <= O j) : TurnI n 4 (iter (turnNF n) 4 0 ((X, O, []) : TurnSt)) := by
  have := iter_inv (f := turnNF n) (n := 4) (I := fun i s => TurnI n i s) (fun i s _ h => h.step) 4 0 ((X, O, []) : TurnSt) (by omega) ⟨g, hX, hO, rfl, fun j hj => by omega⟩
  rwa [Nat.zero_add] at this
theorem pair2 (a b : Int) : ((List.replicate 2 (0 : Int)).set 0 a).set 1 b = [a, b] := rfl
theorem s_TurnNumbers_val (z : β) {N n : Nat} (hN : 100 < N) {X O : Nat -> Int} (g : GridP n X O) (hX : ∀ j, 0 <= X j) (hO : ∀ j, 0 <= O j) (k0 : Int -> β) (k1 : Nat -> Nat -> Nat -> Int -> List (Nat × Nat) -> List (List Int) -> β) :
    s_TurnNumbers z N n X O k0 k1 = k1 (idsOf (turnT n X O)).length (turnT n X O).length (turnT n X O).length 0 (idsOf (turnT n X O)) (turnT n X O) := by
  unfold s_TurnNumbers
  rw [s_l01Is_val z (by omega) _ _ _ hX hO, gridB_iff.2 ⟨n, rfl, g⟩]
  simp only [Bool.not_true, c_false]
  exact up_to (L := fun m i (s : TurnSt) => s_TurnNumbers_l0 z N m (idsOf s.2.2).length s.2.2.length s.2.2.length (i : Int) n s.1 s.2.1 s.2.2 (idsOf s.2.2) fun q7 q8 q9 q10 q11 q12 q13 q14 => k1 q7 q8 q9 0 q14 q13) (n := 4)
    (out := fun s => k1 (idsOf s.2.2).length s.2.2.length s.2.2.length 0 (idsOf s.2.2) s.2.2) (f := turnNF n) (I := fun i s => TurnI n i s)
    (fun m i s hi h => ⟨by
      have hl := h.len
      have hi2 := idsOf_len s.2.2
      simp only [s_TurnNumbers_l0, s_TurnNumbers_l0_s, c_and, c_true]
      rw [c_lt (by omega), s_l07Numbers_val z hN h.g h.x h.o]
      simp (disch := omega) only [c_lt, c_le, c_blt, c_ble, c_nble, c_beq]
      rw [s_QuarterTurn_val z (by omega) h.g h.x h.o, c_fits (by omega)]
      unfold turnNF
      simp only [pair2, idsOf_app, len1, List.length_cons, List.length_nil]
      rfl, h.step⟩)
    (fun m s _ => by simp (disch := omega) only [s_TurnNumbers_l0, s_TurnNumbers_l0_s, c_nlt]) 4 N 0 ((X, O, []) : TurnSt) (by omega) (by omega) ⟨g, hX, hO, rfl, fun j hj => by omega⟩
theorem i_TurnNumbers_val (z : β) {N n : Nat} (hN : 100 < N) {X O : Nat -> Int} (g : GridP n X O) (hX : ∀ j, 0 <= X j) (hO : ∀ j, 0 <= O j) (k0 : Int -> β) (k1 : Nat -> Nat -> Nat -> Int -> List (Nat × Nat) -> List (List Int) -> β) :
    i_TurnNumbers z N n X O k0 k1 = k1 (idsOf (turnT n X O)).length (turnT n X O).length (turnT n X O).length 0 (idsOf (turnT n X O)) (turnT n X O) := by
  unfold i_TurnNumbers i_whole_int64_s4 i_TurnNumbers_1
  rw [i_IsGrid_val z (by omega) _ _ _ hX hO, gridB_iff.2 ⟨n, rfl, g⟩]
  simp only [Bool.not_true, c_false]
  exact up_to (L := fun m i (s : TurnSt) => i_TurnNumbers_1_l0 z N n m (idsOf s.2.2).length s.2.2.length s.2.2.length (i : Int) s.1 s.2.1 s.2.2 (idsOf s.2.2) fun q6 q7 q8 q9 q10 q11 q12 => k1 q6 q7 q8 0 q12 q11) (n := 4)
    (out := fun s => k1 (idsOf s.2.2).length s.2.2.length s.2.2.length 0 (idsOf s.2.2) s.2.2) (f := turnNF n) (I := fun i s => TurnI n i s)
    (fun m i s hi h => ⟨by
      have hl := h.len
      have hi2 := idsOf_len s.2.2
      simp only [i_TurnNumbers_1_l0, i_TurnNumbers_1_l0_s, c_and, c_true]
      rw [c_lt (by omega), i_Grid_numbers_val z hN h.g h.x h.o]
      simp only [List.length_cons, List.length_nil]
      simp (disch := omega) only [c_lt, c_le, c_blt, c_ble, c_nble, c_beq]
      rw [i_Grid_quarter_val z (by omega) h.g h.x h.o, c_fits (by omega)]
      unfold turnNF
      simp only [idsOf_app, len1, List.length_cons, List.length_nil]
      rfl, h.step⟩)
    (fun m s _ => by simp (disch := omega) only [i_TurnNumbers_1_l0, i_TurnNumbers_1_l0_s, c_nlt]) 4 N 0 ((X, O, []) : TurnSt) (by omega) (by omega) ⟨g, hX, hO, rfl, fun j hj => by omega⟩
end
end Go.AM
namespace Go.AM
section
variable {β : Type}
def FrG (N : Nat) (m : Int) (X O : Nat -> Int) : Prop := ∃ n, FrP N m X O n
def FrK (b : Bool) (N : Nat) (m : Int) (X O : Nat -> Int) : Prop := ∃ n, FrP N m X O n ∧ ((compS (nxtC n X O) n).2 == 1) = b
section grids
variable {z : β} {N n : Nat} {X O : Nat -> Int}
theorem cr_cor_i (h : FrP N n X O n) (k0 : Int -> β) (k1 : Nat -> Nat -> Nat -> Int -> List Int -> β) : i_CornersOf z N n X O k0 k1 = k1 (8 * n) (2 * n) (2 * n) 0 (cornersL n X O) := by
  have hN := h.N
  unfold i_CornersOf i_whole_i_Corner
  rw [(fr_is h).2, i_Grid_corners_val z (by omega) h.g h.F.x h.F.o]
  rfl
theorem cr_cor_s (h : FrP N n X O n) (k0 : Int -> β) (k1 : Nat -> Nat -> Nat -> Int -> List Int -> β) : s_CornersOf z N n X O k0 k1 = k1 (8 * n) (2 * n) (2 * n) 0 (cornersL n X O) := by
  have hN := h.N
  unfold s_CornersOf
  rw [(fr_is h).1, s_l07Corners_val z (by omega) h.g h.F.x h.F.o]
  rfl
theorem cr_comp_s (h : FrP N n X O n) (k0 : Int -> β) (k1 : Int -> List (Nat × Nat) -> List (List Int) -> β) (k2 : Nat -> Nat -> Nat -> Int -> List (Nat × Nat) -> List (List Int) -> β) :
    s_ComponentNumbers z N n X O k0 k1 k2 = k2 (idsOf (numsT n X O)).length (numsT n X O).length (cmpC n X O) 0 (idsOf (numsT n X O)) (numsT n X O) := by
  obtain ⟨L, e1, e2⟩ := cmp_links h.g h.F.x h.F.o
  have hc8 : cmpC n X O <= 8 := by have := L.cn; have := L.h8; omega
  have hT := numsT_len n X O
  have hI := idsOf_len (numsT n X O)
  unfold s_ComponentNumbers
  obtain ⟨pool, d, e⟩ := s_LinkingTable_val z h.N h.g h.F.x h.F.o _ _
  refine e.trans ?_
  rw [c_nne rfl, cn_l0 z h.N h.g h.F.x h.F.o hc8 d, hI, hT]
theorem cr_comp_i (h : FrP N n X O n) (k0 : Int -> β) (k1 : Nat -> Nat -> Nat -> Int -> List (Nat × Nat) -> List (List Int) -> β) :
    i_ComponentNumbers z N n X O k0 k1 = k1 (idsOf (numsT n X O)).length (numsT n X O).length (cmpC n X O) 0 (idsOf (numsT n X O)) (numsT n X O) := by
  have hN := h.N
  obtain ⟨L, e1, e2⟩ := cmp_links h.g h.F.x h.F.o
  have hc8 : cmpC n X O <= 8 := by have := L.cn; have := L.h8; omega
  have hT := numsT_len n X O
  have hI := idsOf_len (numsT n X O)
  have hlo := h.g.lo
  have hhi := h.g.hi
  unfold i_ComponentNumbers i_whole_int64_s5 i_ComponentNumbers_1
  rw [(fr_is h).2, Bool.not_true, c_false, i_Grid_component_val z (by omega) h.g h.F.x h.F.o, e1, i_Grid_corners_val z (by omega) h.g h.F.x h.F.o]
  simp only [c_and, c_true, Int.toNat_natCast]
  simp (disch := omega) only [c_le, c_ble]
  generalize hwf : (fun j => if j < n then (compS (nxtC n X O) n).1 j else 0) = wf
  have hw : ∀ i, i < n -> wf i = cmpN n X O i := fun i hi => by rw [<- hwf]; show (if i < n then _ else _) = _; rw [if_pos hi, e2 i hi]
  obtain ⟨hh, H, f⟩ := cnI_l0 z h.N h.g h.F.x h.F.o hw _
  refine f.trans ?_
  clear f
  obtain ⟨ids, pool, d, e⟩ := i_Grid_linking_val z h.N h.g h.F.x h.F.o _
  refine e.trans ?_
  clear e
  rw [cnI_l1 z h.N hhi hc8 H d, hI, hT]
theorem cr_words_i (h : FrP N n X O n) (k0 : Int -> β) (k1 : Nat -> Nat -> Nat -> Int -> List (List UInt8) -> β) : i_CuspWords z N n X O k0 k1 = k1 (wordsS n X O).length (wordsS n X O).length (wordsS n X O).length 0 (wordsS n X O) := by
  unfold i_CuspWords i_whole_string
  rw [(fr_is h).2, Bool.not_true, cond_false, i_CuspWords_1_val z h.N h.g h.F.x h.F.o]
theorem cr_self_s (h : FrP N n X O n) (k0 : Int -> β) (k1 : Int -> List Int -> β) : s_SelfLinkings z N n X O k0 k1 = cond ((compS (nxtC n X O) n).2 == 1) (k1 0 [tbS n X O - rotS n X O, tbS n X O + rotS n X O]) (k0 5) := by
  have hN := h.N
  have hb := nums_bd (X := X) (O := O) h.g.hi
  unfold s_SelfLinkings
  rw [(fr_is h).1, Bool.not_true, c_false, s_l01Components_val z (by omega) h.g h.F.x h.F.o]
  by_cases hk : (compS (nxtC n X O) n).2 = 1
  · rw [c_nne hk, c_eq hk, s_l07Numbers_val z h.N h.g h.F.x h.F.o, c_fits (by omega), c_fits (by omega)]
    rfl
  · rw [c_ne hk, c_neq hk]
theorem cr_self_i (h : FrP N n X O n) (k0 : Int -> β) (k1 : Int -> List Int -> β) : i_SelfLinkings z N n X O k0 k1 = cond ((compS (nxtC n X O) n).2 == 1) (k1 0 [tbS n X O - rotS n X O, tbS n X O + rotS n X O]) (k0 5) := by
  have hN := h.N
  have hb := nums_bd (X := X) (O := O) h.g.hi
  unfold i_SelfLinkings i_knotted_int64 i_SelfLinkings_1 i_Grid_isKnot
  rw [(fr_is h).2, Bool.not_true, c_false, i_Grid_component_val z (by omega) h.g h.F.x h.F.o]
  by_cases hk : (compS (nxtC n X O) n).2 = 1
  · rw [show ((compS (nxtC n X O) n).2 == 1) = true by simpa using hk]
    simp only [Bool.not_true, c_false, c_true, i_Grid_numbers_val z h.N h.g h.F.x h.F.o]
    simp only [List.length_cons, List.length_nil, List.getElem?_cons_zero, List.getElem?_cons_succ, Option.getD_some, show (Nat.beq 2 (0 + 1 + 1) && true) = true from rfl, show (Nat.beq 2 (0 + 1 + 1) && Nat.blt 0 (0 + 1 + 1)) = true from rfl, show (Nat.beq 2 (0 + 1 + 1) && Nat.blt 1 (0 + 1 + 1)) = true from rfl, c_true]
    simp (disch := omega) only [c_fits]
    rfl
  · rw [show ((compS (nxtC n X O) n).2 == 1) = false by simpa using hk]
    simp only [Bool.not_false, c_true, c_false]
end grids
noncomputable def cn_i_CornersOf (z : β) (N : Nat) (g_0 : Int) (g_1 : Nat -> Int) (g_2 : Nat -> Int) (k0 : β) : β := cond (bP (FrA N g_0 g_1 g_2)) k0 z
theorem cn_i_CornersOf_mono {α : Type} {N : Nat} {g_0 : Int} {g_1 g_2 : Nat -> Int} {k0 : Int -> Option α} {k1 : Nat -> Nat -> Nat -> Int -> List Int -> Option α} {r : α} (h : cn_i_CornersOf none N g_0 g_1 g_2 (k0 1) = some r) : i_CornersOf none N g_0 g_1 g_2 k0 k1 = some r := by
  obtain ⟨hp, hk⟩ := cond_some h
  unfold i_CornersOf i_whole_i_Corner
  rw [(fa_is hp).2]
  exact hk
noncomputable def cn_s_CornersOf (z : β) (N : Nat) (g_0 : Int) (g_1 : Nat -> Int) (g_2 : Nat -> Int) (k0 : β) : β := cond (bP (FrA N g_0 g_1 g_2)) k0 z
theorem cn_s_CornersOf_mono {α : Type} {N : Nat} {g_0 : Int} {g_1 g_2 : Nat -> Int} {k0 : Int -> Option α} {k1 : Nat -> Nat -> Nat -> Int -> List Int -> Option α} {r : α} (h : cn_s_CornersOf none N g_0 g_1 g_2 (k0 1) = some r) : s_CornersOf none N g_0 g_1 g_2 k0 k1 = some r := by
  obtain ⟨hp, hk⟩ := cond_some h
  unfold s_CornersOf
  rw [(fa_is hp).1]
  exact hk
noncomputable def cn_i_ComponentNumbers (z : β) (N : Nat) (g_0 : Int) (g_1 : Nat -> Int) (g_2 : Nat -> Int) (k0 : β) : β := cond (bP (FrA N g_0 g_1 g_2)) k0 z
theorem cn_i_ComponentNumbers_mono {α : Type} {N : Nat} {g_0 : Int} {g_1 g_2 : Nat -> Int} {k0 : Int -> Option α} {k1 : Nat -> Nat -> Nat -> Int -> List (Nat × Nat) -> List (List Int) -> Option α} {r : α} (h : cn_i_ComponentNumbers none N g_0 g_1 g_2 (k0 1) = some r) : i_ComponentNumbers none N g_0 g_1 g_2 k0 k1 = some r := by
  obtain ⟨hp, hk⟩ := cond_some h
  unfold i_ComponentNumbers i_whole_int64_s5
  rw [(fa_is hp).2]
  exact hk
noncomputable def cn_s_ComponentNumbers (z : β) (N : Nat) (g_0 : Int) (g_1 : Nat -> Int) (g_2 : Nat -> Int) (k0 : β) : β := cond (bP (FrA N g_0 g_1 g_2)) k0 z
theorem cn_s_ComponentNumbers_mono {α : Type} {N : Nat} {g_0 : Int} {g_1 g_2 : Nat -> Int} {k0 : Int -> Option α} {k1 : Int -> List (Nat × Nat) -> List (List Int) -> Option α} {k2 : Nat -> Nat -> Nat -> Int -> List (Nat × Nat) -> List (List Int) -> Option α} {r : α} (h : cn_s_ComponentNumbers none N g_0 g_1 g_2 (k0 1) = some r) : s_ComponentNumbers none N g_0 g_1 g_2 k0 k1 k2 = some r := by
  obtain ⟨hp, hk⟩ := cond_some h
  unfold s_ComponentNumbers s_LinkingTable
  rw [(fa_is hp).1]
  exact hk
noncomputable def cn_i_CuspWords (z : β) (N : Nat) (g_0 : Int) (g_1 : Nat -> Int) (g_2 : Nat -> Int) (k0 : β) : β := cond (bP (FrA N g_0 g_1 g_2)) k0 z
theorem cn_i_CuspWords_mono {α : Type} {N : Nat} {g_0 : Int} {g_1 g_2 : Nat -> Int} {k0 : Int -> Option α} {k1 : Nat -> Nat -> Nat -> Int -> List (List UInt8) -> Option α} {r : α} (h : cn_i_CuspWords none N g_0 g_1 g_2 (k0 1) = some r) : i_CuspWords none N g_0 g_1 g_2 k0 k1 = some r := by
  obtain ⟨hp, hk⟩ := cond_some h
  unfold i_CuspWords i_whole_string
  rw [(fa_is hp).2]
  exact hk
noncomputable def cn_s_CuspWords (z : β) (N : Nat) (g_0 : Int) (g_1 : Nat -> Int) (g_2 : Nat -> Int) (k0 : β) : β := cond (bP (FrA N g_0 g_1 g_2)) k0 z
theorem cn_s_CuspWords_mono {α : Type} {N : Nat} {g_0 : Int} {g_1 g_2 : Nat -> Int} {k0 : Int -> Option α} {k1 : Nat -> Nat -> Nat -> Int -> List (List UInt8) -> Option α} {r : α} (h : cn_s_CuspWords none N g_0 g_1 g_2 (k0 1) = some r) : s_CuspWords none N g_0 g_1 g_2 k0 k1 = some r := by
  obtain ⟨hp, hk⟩ := cond_some h
  unfold s_CuspWords
  rw [(fa_is hp).1]
  exact hk
noncomputable def cn_i_TurnNumbers (z : β) (N : Nat) (g_0 : Int) (g_1 : Nat -> Int) (g_2 : Nat -> Int) (k0 : β) : β := cond (bP (FrA N g_0 g_1 g_2)) k0 z
theorem cn_i_TurnNumbers_mono {α : Type} {N : Nat} {g_0 : Int} {g_1 g_2 : Nat -> Int} {k0 : Int -> Option α} {k1 : Nat -> Nat -> Nat -> Int -> List (Nat × Nat) -> List (List Int) -> Option α} {r : α} (h : cn_i_TurnNumbers none N g_0 g_1 g_2 (k0 1) = some r) : i_TurnNumbers none N g_0 g_1 g_2 k0 k1 = some r := by
  obtain ⟨hp, hk⟩ := cond_some h
  unfold i_TurnNumbers i_whole_int64_s4
  rw [(fa_is hp).2]
  exact hk
noncomputable def cn_s_TurnNumbers (z : β) (N : Nat) (g_0 : Int) (g_1 : Nat -> Int) (g_2 : Nat -> Int) (k0 : β) : β := cond (bP (FrA N g_0 g_1 g_2)) k0 z
theorem cn_s_TurnNumbers_mono {α : Type} {N : Nat} {g_0 : Int} {g_1 g_2 : Nat -> Int} {k0 : Int -> Option α} {k1 : Nat -> Nat -> Nat -> Int -> List (Nat × Nat) -> List (List Int) -> Option α} {r : α} (h : cn_s_TurnNumbers none N g_0 g_1 g_2 (k0 1) = some r) : s_TurnNumbers none N g_0 g_1 g_2 k0 k1 = some r := by
  obtain ⟨hp, hk⟩ := cond_some h
  unfold s_TurnNumbers
  rw [(fa_is hp).1]
  exact hk
noncomputable def cn_i_SelfLinkings (z : β) (N : Nat) (g_0 : Int) (g_1 : Nat -> Int) (g_2 : Nat -> Int) (k0 : β) : β := cond (bP (FrA N g_0 g_1 g_2)) k0 z
theorem cn_i_SelfLinkings_mono {α : Type} {N : Nat} {g_0 : Int} {g_1 g_2 : Nat -> Int} {k0 : Int -> Option α} {k1 : Int -> List Int -> Option α} {r : α} (h : cn_i_SelfLinkings none N g_0 g_1 g_2 (k0 1) = some r) : i_SelfLinkings none N g_0 g_1 g_2 k0 k1 = some r := by
  obtain ⟨hp, hk⟩ := cond_some h
  unfold i_SelfLinkings i_knotted_int64
  rw [(fa_is hp).2]
  exact hk
noncomputable def cn_s_SelfLinkings (z : β) (N : Nat) (g_0 : Int) (g_1 : Nat -> Int) (g_2 : Nat -> Int) (k0 : β) : β := cond (bP (FrA N g_0 g_1 g_2)) k0 z
theorem cn_s_SelfLinkings_mono {α : Type} {N : Nat} {g_0 : Int} {g_1 g_2 : Nat -> Int} {k0 : Int -> Option α} {k1 : Int -> List Int -> Option α} {r : α} (h : cn_s_SelfLinkings none N g_0 g_1 g_2 (k0 1) = some r) : s_SelfLinkings none N g_0 g_1 g_2 k0 k1 = some r := by
  obtain ⟨hp, hk⟩ := cond_some h
  unfold s_SelfLinkings
  rw [(fa_is hp).1]
  exact hk
noncomputable def ek_i_CornersOf (z : β) (N : Nat) (g_0 : Int) (g_1 : Nat -> Int) (g_2 : Nat -> Int) (k0 : Nat -> Nat -> Nat -> (List Int) -> β) : β := cond (bP (FrG N g_0 g_1 g_2)) (k0 (8 * g_0.toNat) (2 * g_0.toNat) (2 * g_0.toNat) (cornersL g_0.toNat g_1 g_2)) z
theorem ek_i_CornersOf_mono {α : Type} {N : Nat} {g_0 : Int} {g_1 g_2 : Nat -> Int} {k0 : Int -> Option α} {k1 : Nat -> Nat -> Nat -> Int -> List Int -> Option α} {r : α} (h : ek_i_CornersOf none N g_0 g_1 g_2 (fun a b c d => k1 a b c 0 d) = some r) : i_CornersOf none N g_0 g_1 g_2 k0 k1 = some r := by
  obtain ⟨⟨n, hp⟩, hk⟩ := cond_some h
  obtain rfl := hp.m
  rw [cr_cor_i hp]
  exact hk
noncomputable def ek_s_CornersOf (z : β) (N : Nat) (g_0 : Int) (g_1 : Nat -> Int) (g_2 : Nat -> Int) (k0 : Nat -> Nat -> Nat -> (List Int) -> β) : β := cond (bP (FrG N g_0 g_1 g_2)) (k0 (8 * g_0.toNat) (2 * g_0.toNat) (2 * g_0.toNat) (cornersL g_0.toNat g_1 g_2)) z
theorem ek_s_CornersOf_mono {α : Type} {N : Nat} {g_0 : Int} {g_1 g_2 : Nat -> Int} {k0 : Int -> Option α} {k1 : Nat -> Nat -> Nat -> Int -> List Int -> Option α} {r : α} (h : ek_s_CornersOf none N g_0 g_1 g_2 (fun a b c d => k1 a b c 0 d) = some r) : s_CornersOf none N g_0 g_1 g_2 k0 k1 = some r := by
  obtain ⟨⟨n, hp⟩, hk⟩ := cond_some h
  obtain rfl := hp.m
  rw [cr_cor_s hp]
  exact hk
noncomputable def ek_i_ComponentNumbers (z : β) (N : Nat) (g_0 : Int) (g_1 : Nat -> Int) (g_2 : Nat -> Int) (k0 : Nat -> Nat -> Nat -> (List (Nat × Nat)) -> (List (List Int)) -> β) : β := cond (bP (FrG N g_0 g_1 g_2)) (k0 (idsOf (numsT g_0.toNat g_1 g_2)).length (numsT g_0.toNat g_1 g_2).length (cmpC g_0.toNat g_1 g_2) (idsOf (numsT g_0.toNat g_1 g_2)) (numsT g_0.toNat g_1 g_2)) z
theorem ek_i_ComponentNumbers_mono {α : Type} {N : Nat} {g_0 : Int} {g_1 g_2 : Nat -> Int} {k0 : Int -> Option α} {k1 : Nat -> Nat -> Nat -> Int -> List (Nat × Nat) -> List (List Int) -> Option α} {r : α} (h : ek_i_ComponentNumbers none N g_0 g_1 g_2 (fun a b c d e => k1 a b c 0 d e) = some r) : i_ComponentNumbers none N g_0 g_1 g_2 k0 k1 = some r := by
  obtain ⟨⟨n, hp⟩, hk⟩ := cond_some h
  obtain rfl := hp.m
  rw [cr_comp_i hp]
  exact hk
noncomputable def ek_s_ComponentNumbers (z : β) (N : Nat) (g_0 : Int) (g_1 : Nat -> Int) (g_2 : Nat -> Int) (k0 : Nat -> Nat -> Nat -> (List (Nat × Nat)) -> (List (List Int)) -> β) : β := cond (bP (FrG N g_0 g_1 g_2)) (k0 (idsOf (numsT g_0.toNat g_1 g_2)).length (numsT g_0.toNat g_1 g_2).length (cmpC g_0.toNat g_1 g_2) (idsOf (numsT g_0.toNat g_1 g_2)) (numsT g_0.toNat g_1 g_2)) z
theorem ek_s_ComponentNumbers_mono {α : Type} {N : Nat} {g_0 : Int} {g_1 g_2 : Nat -> Int} {k0 : Int -> Option α} {k1 : Int -> List (Nat × Nat) -> List (List Int) -> Option α} {k2 : Nat -> Nat -> Nat -> Int -> List (Nat × Nat) -> List (List Int) -> Option α} {r : α} (h : ek_s_ComponentNumbers none N g_0 g_1 g_2 (fun a b c d e => k2 a b c 0 d e) = some r) : s_ComponentNumbers none N g_0 g_1 g_2 k0 k1 k2 = some r := by
  obtain ⟨⟨n, hp⟩, hk⟩ := cond_some h
  obtain rfl := hp.m
  rw [cr_comp_s hp]
  exact hk
noncomputable def ek_i_CuspWords (z : β) (N : Nat) (g_0 : Int) (g_1 : Nat -> Int) (g_2 : Nat -> Int) (k0 : Nat -> Nat -> Nat -> (List (List UInt8)) -> β) : β := cond (bP (FrG N g_0 g_1 g_2)) (k0 (wordsS g_0.toNat g_1 g_2).length (wordsS g_0.toNat g_1 g_2).length (wordsS g_0.toNat g_1 g_2).length (wordsS g_0.toNat g_1 g_2)) z
theorem ek_i_CuspWords_mono {α : Type} {N : Nat} {g_0 : Int} {g_1 g_2 : Nat -> Int} {k0 : Int -> Option α} {k1 : Nat -> Nat -> Nat -> Int -> List (List UInt8) -> Option α} {r : α} (h : ek_i_CuspWords none N g_0 g_1 g_2 (fun a b c d => k1 a b c 0 d) = some r) : i_CuspWords none N g_0 g_1 g_2 k0 k1 = some r := by
  obtain ⟨⟨n, hp⟩, hk⟩ := cond_some h
  obtain rfl := hp.m
  rw [cr_words_i hp]
  exact hk
noncomputable def ek_s_CuspWords (z : β) (N : Nat) (g_0 : Int) (g_1 : Nat -> Int) (g_2 : Nat -> Int) (k0 : Nat -> Nat -> Nat -> (List (List UInt8)) -> β) : β := cond (bP (FrG N g_0 g_1 g_2)) (k0 (wordsS g_0.toNat g_1 g_2).length (wordsS g_0.toNat g_1 g_2).length (wordsS g_0.toNat g_1 g_2).length (wordsS g_0.toNat g_1 g_2)) z
theorem ek_s_CuspWords_mono {α : Type} {N : Nat} {g_0 : Int} {g_1 g_2 : Nat -> Int} {k0 : Int -> Option α} {k1 : Nat -> Nat -> Nat -> Int -> List (List UInt8) -> Option α} {r : α} (h : ek_s_CuspWords none N g_0 g_1 g_2 (fun a b c d => k1 a b c 0 d) = some r) : s_CuspWords none N g_0 g_1 g_2 k0 k1 = some r := by
  obtain ⟨⟨n, hp⟩, hk⟩ := cond_some h
  obtain rfl := hp.m
  rw [s_CuspWords_val none hp.N hp.g hp.F.x hp.F.o]
  exact hk
noncomputable def ek_i_TurnNumbers (z : β) (N : Nat) (g_0 : Int) (g_1 : Nat -> Int) (g_2 : Nat -> Int) (k0 : Nat -> Nat -> Nat -> (List (Nat × Nat)) -> (List (List Int)) -> β) : β := cond (bP (FrG N g_0 g_1 g_2)) (k0 (idsOf (turnT g_0.toNat g_1 g_2)).length (turnT g_0.toNat g_1 g_2).length (turnT g_0.toNat g_1 g_2).length (idsOf (turnT g_0.toNat g_1 g_2)) (turnT g_0.toNat g_1 g_2)) z
theorem ek_i_TurnNumbers_mono {α : Type} {N : Nat} {g_0 : Int} {g_1 g_2 : Nat -> Int} {k0 : Int -> Option α} {k1 : Nat -> Nat -> Nat -> Int -> List (Nat × Nat) -> List (List Int) -> Option α} {r : α} (h : ek_i_TurnNumbers none N g_0 g_1 g_2 (fun a b c d e => k1 a b c 0 d e) = some r) : i_TurnNumbers none N g_0 g_1 g_2 k0 k1 = some r := by
  obtain ⟨⟨n, hp⟩, hk⟩ := cond_some h
  obtain rfl := hp.m
  rw [i_TurnNumbers_val none hp.N hp.g hp.F.x hp.F.o]
  exact hk
noncomputable def ek_s_TurnNumbers (z : β) (N : Nat) (g_0 : Int) (g_1 : Nat -> Int) (g_2 : Nat -> Int) (k0 : Nat -> Nat -> Nat -> (List (Nat × Nat)) -> (List (List Int)) -> β) : β := cond (bP (FrG N g_0 g_1 g_2)) (k0 (idsOf (turnT g_0.toNat g_1 g_2)).length (turnT g_0.toNat g_1 g_2).length (turnT g_0.toNat g_1 g_2).length (idsOf (turnT g_0.toNat g_1 g_2)) (turnT g_0.toNat g_1 g_2)) z
theorem ek_s_TurnNumbers_mono {α : Type} {N : Nat} {g_0 : Int} {g_1 g_2 : Nat -> Int} {k0 : Int -> Option α} {k1 : Nat -> Nat -> Nat -> Int -> List (Nat × Nat) -> List (List Int) -> Option α} {r : α} (h : ek_s_TurnNumbers none N g_0 g_1 g_2 (fun a b c d e => k1 a b c 0 d e) = some r) : s_TurnNumbers none N g_0 g_1 g_2 k0 k1 = some r := by
  obtain ⟨⟨n, hp⟩, hk⟩ := cond_some h
  obtain rfl := hp.m
  rw [s_TurnNumbers_val none hp.N hp.g hp.F.x hp.F.o]
  exact hk
noncomputable def ek_i_SelfLinkings (z : β) (N : Nat) (g_0 : Int) (g_1 : Nat -> Int) (g_2 : Nat -> Int) (k0 : List Int -> β) : β := cond (bP (FrK true N g_0 g_1 g_2)) (k0 [tbS g_0.toNat g_1 g_2 - rotS g_0.toNat g_1 g_2, tbS g_0.toNat g_1 g_2 + rotS g_0.toNat g_1 g_2]) z
theorem ek_i_SelfLinkings_mono {α : Type} {N : Nat} {g_0 : Int} {g_1 g_2 : Nat -> Int} {k0 : Int -> Option α} {k1 : Int -> List Int -> Option α} {r : α} (h : ek_i_SelfLinkings none N g_0 g_1 g_2 (fun a => k1 0 a) = some r) : i_SelfLinkings none N g_0 g_1 g_2 k0 k1 = some r := by
  obtain ⟨⟨n, hp, hb⟩, hk⟩ := cond_some h
  obtain rfl := hp.m
  rw [cr_self_i hp, hb]
  exact hk
noncomputable def ek_s_SelfLinkings (z : β) (N : Nat) (g_0 : Int) (g_1 : Nat -> Int) (g_2 : Nat -> Int) (k0 : List Int -> β) : β := cond (bP (FrK true N g_0 g_1 g_2)) (k0 [tbS g_0.toNat g_1 g_2 - rotS g_0.toNat g_1 g_2, tbS g_0.toNat g_1 g_2 + rotS g_0.toNat g_1 g_2]) z
theorem ek_s_SelfLinkings_mono {α : Type} {N : Nat} {g_0 : Int} {g_1 g_2 : Nat -> Int} {k0 : Int -> Option α} {k1 : Int -> List Int -> Option α} {r : α} (h : ek_s_SelfLinkings none N g_0 g_1 g_2 (fun a => k1 0 a) = some r) : s_SelfLinkings none N g_0 g_1 g_2 k0 k1 = some r := by
  obtain ⟨⟨n, hp, hb⟩, hk⟩ := cond_some h
  obtain rfl := hp.m
  rw [cr_self_s hp, hb]
  exact hk
noncomputable def ek_i_CountCusps (z : β) (N : Nat) (g_0 : Int) (g_1 : Nat -> Int) (g_2 : Nat -> Int) (k0 : Int -> β) : β := cond (bP (FrG N g_0 g_1 g_2)) (k0 (cuspT g_0.toNat g_1 g_2)) z
theorem ek_i_CountCusps_mono {α : Type} {N : Nat} {g_0 : Int} {g_1 g_2 : Nat -> Int} {k0 : Int -> Int -> Option α} {r : α} (h : ek_i_CountCusps none N g_0 g_1 g_2 (fun a => k0 a 0) = some r) : i_CountCusps none N g_0 g_1 g_2 k0 = some r := by
  obtain ⟨⟨n, hp⟩, hk⟩ := cond_some h
  obtain rfl := hp.m
  rw [fr_cusp_i hp]
  exact hk
noncomputable def ek_i_RotationOf (z : β) (N : Nat) (g_0 : Int) (g_1 : Nat -> Int) (g_2 : Nat -> Int) (k0 : Int -> β) : β := cond (bP (FrG N g_0 g_1 g_2)) (k0 (rotS g_0.toNat g_1 g_2)) z
theorem ek_i_RotationOf_mono {α : Type} {N : Nat} {g_0 : Int} {g_1 g_2 : Nat -> Int} {k0 : Int -> Int -> Option α} {r : α} (h : ek_i_RotationOf none N g_0 g_1 g_2 (fun a => k0 a 0) = some r) : i_RotationOf none N g_0 g_1 g_2 k0 = some r := by
  obtain ⟨⟨n, hp⟩, hk⟩ := cond_some h
  obtain rfl := hp.m
  rw [fr_rot_i hp]
  exact hk
noncomputable def el_i_CornersOf (z : β) (N : Nat) (g_0 : Int) (g_1 : Nat -> Int) (g_2 : Nat -> Int) (k0 : Nat -> Nat -> Nat -> (List Int) -> β) : β := cond (bP (FrG N g_0 g_1 g_2)) (k0 (8 * g_0.toNat) (2 * g_0.toNat) (2 * g_0.toNat) (cornersL g_0.toNat g_1 g_2)) z
theorem el_i_CornersOf_mono {α : Type} {N : Nat} {g_0 : Int} {g_1 g_2 : Nat -> Int} {k0 : Int -> Option α} {k1 : Nat -> Nat -> Nat -> Int -> List Int -> Option α} {r : α} (h : el_i_CornersOf none N g_0 g_1 g_2 (fun a b c d => k1 a b c 0 d) = some r) : i_CornersOf none N g_0 g_1 g_2 k0 k1 = some r := by
  obtain ⟨⟨n, hp⟩, hk⟩ := cond_some h
  obtain rfl := hp.m
  rw [cr_cor_i hp]
  exact hk
noncomputable def el_s_CornersOf (z : β) (N : Nat) (g_0 : Int) (g_1 : Nat -> Int) (g_2 : Nat -> Int) (k0 : Nat -> Nat -> Nat -> (List Int) -> β) : β := cond (bP (FrG N g_0 g_1 g_2)) (k0 (8 * g_0.toNat) (2 * g_0.toNat) (2 * g_0.toNat) (cornersL g_0.toNat g_1 g_2)) z
theorem el_s_CornersOf_mono {α : Type} {N : Nat} {g_0 : Int} {g_1 g_2 : Nat -> Int} {k0 : Int -> Option α} {k1 : Nat -> Nat -> Nat -> Int -> List Int -> Option α} {r : α} (h : el_s_CornersOf none N g_0 g_1 g_2 (fun a b c d => k1 a b c 0 d) = some r) : s_CornersOf none N g_0 g_1 g_2 k0 k1 = some r := by
  obtain ⟨⟨n, hp⟩, hk⟩ := cond_some h
  obtain rfl := hp.m
  rw [cr_cor_s hp]
  exact hk
noncomputable def el_i_ComponentNumbers (z : β) (N : Nat) (g_0 : Int) (g_1 : Nat -> Int) (g_2 : Nat -> Int) (k0 : Nat -> Nat -> Nat -> (List (Nat × Nat)) -> (List (List Int)) -> β) : β := cond (bP (FrG N g_0 g_1 g_2)) (k0 (idsOf (numsT g_0.toNat g_1 g_2)).length (numsT g_0.toNat g_1 g_2).length (cmpC g_0.toNat g_1 g_2) (idsOf (numsT g_0.toNat g_1 g_2)) (numsT g_0.toNat g_1 g_2)) z
theorem el_i_ComponentNumbers_mono {α : Type} {N : Nat} {g_0 : Int} {g_1 g_2 : Nat -> Int} {k0 : Int -> Option α} {k1 : Nat -> Nat -> Nat -> Int -> List (Nat × Nat) -> List (List Int) -> Option α} {r : α} (h : el_i_ComponentNumbers none N g_0 g_1 g_2 (fun a b c d e => k1 a b c 0 d e) = some r) : i_ComponentNumbers none N g_0 g_1 g_2 k0 k1 = some r := by
  obtain ⟨⟨n, hp⟩, hk⟩ := cond_some h
  obtain rfl := hp.m
  rw [cr_comp_i hp]
  exact hk
noncomputable def el_s_ComponentNumbers (z : β) (N : Nat) (g_0 : Int) (g_1 : Nat -> Int) (g_2 : Nat -> Int) (k0 : Nat -> Nat -> Nat -> (List (Nat × Nat)) -> (List (List Int)) -> β) : β := cond (bP (FrG N g_0 g_1 g_2)) (k0 (idsOf (numsT g_0.toNat g_1 g_2)).length (numsT g_0.toNat g_1 g_2).length (cmpC g_0.toNat g_1 g_2) (idsOf (numsT g_0.toNat g_1 g_2)) (numsT g_0.toNat g_1 g_2)) z
theorem el_s_ComponentNumbers_mono {α : Type} {N : Nat} {g_0 : Int} {g_1 g_2 : Nat -> Int} {k0 : Int -> Option α} {k1 : Int -> List (Nat × Nat) -> List (List Int) -> Option α} {k2 : Nat -> Nat -> Nat -> Int -> List (Nat × Nat) -> List (List Int) -> Option α} {r : α} (h : el_s_ComponentNumbers none N g_0 g_1 g_2 (fun a b c d e => k2 a b c 0 d e) = some r) : s_ComponentNumbers none N g_0 g_1 g_2 k0 k1 k2 = some r := by
  obtain ⟨⟨n, hp⟩, hk⟩ := cond_some h
  obtain rfl := hp.m
  rw [cr_comp_s hp]
  exact hk
noncomputable def el_i_CuspWords (z : β) (N : Nat) (g_0 : Int) (g_1 : Nat -> Int) (g_2 : Nat -> Int) (k0 : Nat -> Nat -> Nat -> (List (List UInt8)) -> β) : β := cond (bP (FrG N g_0 g_1 g_2)) (k0 (wordsS g_0.toNat g_1 g_2).length (wordsS g_0.toNat g_1 g_2).length (wordsS g_0.toNat g_1 g_2).length (wordsS g_0.toNat g_1 g_2)) z
theorem el_i_CuspWords_mono {α : Type} {N : Nat} {g_0 : Int} {g_1 g_2 : Nat -> Int} {k0 : Int -> Option α} {k1 : Nat -> Nat -> Nat -> Int -> List (List UInt8) -> Option α} {r : α} (h : el_i_CuspWords none N g_0 g_1 g_2 (fun a b c d => k1 a b c 0 d) = some r) : i_CuspWords none N g_0 g_1 g_2 k0 k1 = some r := by
  obtain ⟨⟨n, hp⟩, hk⟩ := cond_some h
  obtain rfl := hp.m
  rw [cr_words_i hp]
  exact hk
noncomputable def el_s_CuspWords (z : β) (N : Nat) (g_0 : Int) (g_1 : Nat -> Int) (g_2 : Nat -> Int) (k0 : Nat -> Nat -> Nat -> (List (List UInt8)) -> β) : β := cond (bP (FrG N g_0 g_1 g_2)) (k0 (wordsS g_0.toNat g_1 g_2).length (wordsS g_0.toNat g_1 g_2).length (wordsS g_0.toNat g_1 g_2).length (wordsS g_0.toNat g_1 g_2)) z
theorem el_s_CuspWords_mono {α : Type} {N : Nat} {g_0 : Int} {g_1 g_2 : Nat -> Int} {k0 : Int -> Option α} {k1 : Nat -> Nat -> Nat -> Int -> List (List UInt8) -> Option α} {r : α} (h : el_s_CuspWords none N g_0 g_1 g_2 (fun a b c d => k1 a b c 0 d) = some r) : s_CuspWords none N g_0 g_1 g_2 k0 k1 = some r := by
  obtain ⟨⟨n, hp⟩, hk⟩ := cond_some h
  obtain rfl := hp.m
  rw [s_CuspWords_val none hp.N hp.g hp.F.x hp.F.o]
  exact hk
noncomputable def el_i_TurnNumbers (z : β) (N : Nat) (g_0 : Int) (g_1 : Nat -> Int) (g_2 : Nat -> Int) (k0 : Nat -> Nat -> Nat -> (List (Nat × Nat)) -> (List (List Int)) -> β) : β := cond (bP (FrG N g_0 g_1 g_2)) (k0 (idsOf (turnT g_0.toNat g_1 g_2)).length (turnT g_0.toNat g_1 g_2).length (turnT g_0.toNat g_1 g_2).length (idsOf (turnT g_0.toNat g_1 g_2)) (turnT g_0.toNat g_1 g_2)) z
theorem el_i_TurnNumbers_mono {α : Type} {N : Nat} {g_0 : Int} {g_1 g_2 : Nat -> Int} {k0 : Int -> Option α} {k1 : Nat -> Nat -> Nat -> Int -> List (Nat × Nat) -> List (List Int) -> Option α} {r : α} (h : el_i_TurnNumbers none N g_0 g_1 g_2 (fun a b c d e => k1 a b c 0 d e) = some r) : i_TurnNumbers none N g_0 g_1 g_2 k0 k1 = some r := by
  obtain ⟨⟨n, hp⟩, hk⟩ := cond_some h
  obtain rfl := hp.m
  rw [i_TurnNumbers_val none hp.N hp.g hp.F.x hp.F.o]
  exact hk
noncomputable def el_s_TurnNumbers (z : β) (N : Nat) (g_0 : Int) (g_1 : Nat -> Int) (g_2 : Nat -> Int) (k0 : Nat -> Nat -> Nat -> (List (Nat × Nat)) -> (List (List Int)) -> β) : β := cond (bP (FrG N g_0 g_1 g_2)) (k0 (idsOf (turnT g_0.toNat g_1 g_2)).length (turnT g_0.toNat g_1 g_2).length (turnT g_0.toNat g_1 g_2).length (idsOf (turnT g_0.toNat g_1 g_2)) (turnT g_0.toNat g_1 g_2)) z
theorem el_s_TurnNumbers_mono {α : Type} {N : Nat} {g_0 : Int} {g_1 g_2 : Nat -> Int} {k0 : Int -> Option α} {k1 : Nat -> Nat -> Nat -> Int -> List (Nat × Nat) -> List (List Int) -> Option α} {r : α} (h : el_s_TurnNumbers none N g_0 g_1 g_2 (fun a b c d e => k1 a b c 0 d e) = some r) : s_TurnNumbers none N g_0 g_1 g_2 k0 k1 = some r := by
  obtain ⟨⟨n, hp⟩, hk⟩ := cond_some h
  obtain rfl := hp.m
  rw [s_TurnNumbers_val none hp.N hp.g hp.F.x hp.F.o]
  exact hk
noncomputable def el_i_SelfLinkings (z : β) (N : Nat) (g_0 : Int) (g_1 : Nat -> Int) (g_2 : Nat -> Int) (k0 : β) : β := cond (bP (FrK false N g_0 g_1 g_2)) k0 z
theorem el_i_SelfLinkings_mono {α : Type} {N : Nat} {g_0 : Int} {g_1 g_2 : Nat -> Int} {k0 : Int -> Option α} {k1 : Int -> List Int -> Option α} {r : α} (h : el_i_SelfLinkings none N g_0 g_1 g_2 (k0 5) = some r) : i_SelfLinkings none N g_0 g_1 g_2 k0 k1 = some r := by
  obtain ⟨⟨n, hp, hb⟩, hk⟩ := cond_some h
  obtain rfl := hp.m
  rw [cr_self_i hp, hb]
  exact hk
noncomputable def el_s_SelfLinkings (z : β) (N : Nat) (g_0 : Int) (g_1 : Nat -> Int) (g_2 : Nat -> Int) (k0 : β) : β := cond (bP (FrK false N g_0 g_1 g_2)) k0 z
theorem el_s_SelfLinkings_mono {α : Type} {N : Nat} {g_0 : Int} {g_1 g_2 : Nat -> Int} {k0 : Int -> Option α} {k1 : Int -> List Int -> Option α} {r : α} (h : el_s_SelfLinkings none N g_0 g_1 g_2 (k0 5) = some r) : s_SelfLinkings none N g_0 g_1 g_2 k0 k1 = some r := by
  obtain ⟨⟨n, hp, hb⟩, hk⟩ := cond_some h
  obtain rfl := hp.m
  rw [cr_self_s hp, hb]
  exact hk
noncomputable def el_i_CountCusps (z : β) (N : Nat) (g_0 : Int) (g_1 : Nat -> Int) (g_2 : Nat -> Int) (k0 : Int -> β) : β := cond (bP (FrG N g_0 g_1 g_2)) (k0 (cuspT g_0.toNat g_1 g_2)) z
theorem el_i_CountCusps_mono {α : Type} {N : Nat} {g_0 : Int} {g_1 g_2 : Nat -> Int} {k0 : Int -> Int -> Option α} {r : α} (h : el_i_CountCusps none N g_0 g_1 g_2 (fun a => k0 a 0) = some r) : i_CountCusps none N g_0 g_1 g_2 k0 = some r := by
  obtain ⟨⟨n, hp⟩, hk⟩ := cond_some h
  obtain rfl := hp.m
  rw [fr_cusp_i hp]
  exact hk
noncomputable def el_i_RotationOf (z : β) (N : Nat) (g_0 : Int) (g_1 : Nat -> Int) (g_2 : Nat -> Int) (k0 : Int -> β) : β := cond (bP (FrG N g_0 g_1 g_2)) (k0 (rotS g_0.toNat g_1 g_2)) z
theorem el_i_RotationOf_mono {α : Type} {N : Nat} {g_0 : Int} {g_1 g_2 : Nat -> Int} {k0 : Int -> Int -> Option α} {r : α} (h : el_i_RotationOf none N g_0 g_1 g_2 (fun a => k0 a 0) = some r) : i_RotationOf none N g_0 g_1 g_2 k0 = some r := by
  obtain ⟨⟨n, hp⟩, hk⟩ := cond_some h
  obtain rfl := hp.m
  rw [fr_rot_i hp]
  exact hk
end
end Go.AM
set_option maxRecDepth 100000
namespace Go.AM
noncomputable def cn_w_FnCorners {β : Type} (z : β) (N : Nat) (code_n : Nat) (code_l : Nat) (code_c : Nat) (h0_n : Nat) (h0 : Nat -> Int) (k0 : Bool -> β) : β :=
  w_big z N code_n code_l code_c h0_n h0 (fun q8 => cond (q8) (k0 true) (s_DrawCornersOf z N code_n code_l code_c h0_n h0 (fun q9 q10 q11 => cn_i_CornersOf z N q9 q10 q11 (cn_s_CornersOf z N q9 q10 q11 (w_FnCorners_l0 z 0 h0_n h0 q9 q10 q11 (fun (x : Nat) => 0) N (cn_i_ComponentNumbers z N q9 q10 q11 (cn_s_ComponentNumbers z N q9 q10 q11 (cn_i_CuspWords z N q9 q10 q11 (cn_s_CuspWords z N q9 q10 q11 (cn_i_TurnNumbers z N q9 q10 q11 (cn_s_TurnNumbers z N q9 q10 q11 (cn_i_SelfLinkings z N q9 q10 q11 (cn_s_SelfLinkings z N q9 q10 q11 (w_rows5 z N (fun q12 => cond (!q12) (k0 false) (w_rows5 z N (fun q13 => cond (!q13) (k0 false) (w_likeInts z N (fun q14 => cond (!q14) (k0 false) (w_FnCorners_l1 z 0 0 h0_n h0 q9 q10 q11 (fun (x : Nat) => 0) N (k0 true)))))))))))))))))))))
end Go.AM
set_option maxRecDepth 100000
namespace Go.AM
noncomputable def ek_w_FnCorners {β : Type} (z : β) (N : Nat) (code_n : Nat) (code_l : Nat) (code_c : Nat) (h0_n : Nat) (h0 : Nat -> Int) (k0 : Bool -> β) : β :=
  w_big z N code_n code_l code_c h0_n h0 (fun q8 => cond (q8) (k0 true) (s_DrawCornersOf z N code_n code_l code_c h0_n h0 (fun q9 q10 q11 => ek_i_CornersOf z N q9 q10 q11 (fun q12 q13 q14 q15 => ek_s_CornersOf z N q9 q10 q11 (fun q16 q17 q18 q19 => cond (q13.ble 9223372036854775807) (cond (q17.ble 9223372036854775807) (cond ((↑q13 : Int) != (↑q17 : Int)) (k0 false) (w_FnCorners_l0_s3 z q12 q13 q14 q16 q17 q18 h0_n h0 q9 q10 q11 q15 q19 N 0 (fun (x : Nat) => 0) (fun q20 => k0 false) (fun q20 => ek_i_ComponentNumbers z N q9 q10 q11 (fun q21 q22 q23 q24 q25 => ek_s_ComponentNumbers z N q9 q10 q11 (fun q26 q27 q28 q29 q30 => ek_i_CuspWords z N q9 q10 q11 (fun q31 q32 q33 q34 => ek_s_CuspWords z N q9 q10 q11 (fun q35 q36 q37 q38 => ek_i_TurnNumbers z N q9 q10 q11 (fun q39 q40 q41 q42 q43 => ek_s_TurnNumbers z N q9 q10 q11 (fun q44 q45 q46 q47 q48 => ek_i_SelfLinkings z N q9 q10 q11 (fun q49 => ek_s_SelfLinkings z N q9 q10 q11 (fun q50 => w_rows5_s2 z N q21 q22 q23 q26 q27 q28 q24 q29 q25 q30 (fun q51 => cond (!q51) (k0 false) (cond (q32.ble 9223372036854775807) (cond (q36.ble 9223372036854775807) (cond ((↑q32 : Int) != (↑q36 : Int)) (k0 false) (w_rows5_s2 z N q39 q40 q41 q44 q45 q46 q42 q47 q43 q48 (fun q52 => cond (!q52) (k0 false) (w_likeInts_s3 z N 2 2 2 2 2 2 q49 q50 (fun q53 => cond (!q53) (k0 false) (w_FnCorners_l1_s4 z q12 q13 q14 q21 q22 q23 q31 q32 q33 q35 q36 q37 h0_n h0 q9 q10 q11 q15 q19 q20 q24 q25 q29 q30 q34 q38 q42 q43 q47 q48 q49 q50 N 0 0 (k0 false) (fun q54 => ek_i_CountCusps z N q9 q10 q11 (fun q55 => ek_i_RotationOf z N q9 q10 q11 (fun q56 => w_FnCorners_l2_s3 z q12 q13 q14 q21 q22 q23 q54 q55 q56 h0_n h0 q9 q10 q11 q15 q19 q20 q24 q25 q29 q30 q34 q38 q42 q43 q47 q48 q49 q50 N 0 0 (fun q57 => cond (q55 != q54) (k0 false) (cond (fits .i64 (q20 0 + q20 3)) (cond (q55 != q20 0 + q20 3) (k0 false) (cond (q57 != q56) (k0 false) (cond (q13.ble 9223372036854775807) (cond (fits .i64 (2 * q9)) (cond ((↑q13 : Int) != 2 * q9) (k0 false) (cond (fits .i64 (q20 1 + q20 2)) (cond (fits .i64 (2 * q9)) (cond (fits .i64 (2 * q9 - q55)) (cond (q20 1 + q20 2 != 2 * q9 - q55) (k0 false) (k0 true)) (z)) (z)) (z))) (z)) (z)))) (z)))))))))))) (z)) (z)))))))))))))) (z)) (z))))))
end Go.AM
set_option maxRecDepth 100000
namespace Go.AM
noncomputable def el_w_FnCorners {β : Type} (z : β) (N : Nat) (code_n : Nat) (code_l : Nat) (code_c : Nat) (h0_n : Nat) (h0 : Nat -> Int) (k0 : Bool -> β) : β :=
  w_big z N code_n code_l code_c h0_n h0 (fun q8 => cond (q8) (k0 true) (s_DrawCornersOf z N code_n code_l code_c h0_n h0 (fun q9 q10 q11 => el_i_CornersOf z N q9 q10 q11 (fun q12 q13 q14 q15 => el_s_CornersOf z N q9 q10 q11 (fun q16 q17 q18 q19 => cond (q13.ble 9223372036854775807) (cond (q17.ble 9223372036854775807) (cond ((↑q13 : Int) != (↑q17 : Int)) (k0 false) (w_FnCorners_l0_s3 z q12 q13 q14 q16 q17 q18 h0_n h0 q9 q10 q11 q15 q19 N 0 (fun (x : Nat) => 0) (fun q20 => k0 false) (fun q20 => el_i_ComponentNumbers z N q9 q10 q11 (fun q21 q22 q23 q24 q25 => el_s_ComponentNumbers z N q9 q10 q11 (fun q26 q27 q28 q29 q30 => el_i_CuspWords z N q9 q10 q11 (fun q31 q32 q33 q34 => el_s_CuspWords z N q9 q10 q11 (fun q35 q36 q37 q38 => el_i_TurnNumbers z N q9 q10 q11 (fun q39 q40 q41 q42 q43 => el_s_TurnNumbers z N q9 q10 q11 (fun q44 q45 q46 q47 q48 => el_i_SelfLinkings z N q9 q10 q11 (el_s_SelfLinkings z N q9 q10 q11 (w_rows5_s2 z N q21 q22 q23 q26 q27 q28 q24 q29 q25 q30 (fun q49 => cond (!q49) (k0 false) (cond (q32.ble 9223372036854775807) (cond (q36.ble 9223372036854775807) (cond ((↑q32 : Int) != (↑q36 : Int)) (k0 false) (w_rows5_s2 z N q39 q40 q41 q44 q45 q46 q42 q47 q43 q48 (fun q50 => cond (!q50) (k0 false) (w_likeInts z N (fun q51 => cond (!q51) (k0 false) (w_FnCorners_l1_s5 z q12 q13 q14 q21 q22 q23 q31 q32 q33 q35 q36 q37 h0_n h0 q9 q10 q11 q15 q19 q20 q24 q25 q29 q30 q34 q38 q42 q43 q47 q48 N 0 0 (k0 false) (fun q52 => el_i_CountCusps z N q9 q10 q11 (fun q53 => el_i_RotationOf z N q9 q10 q11 (fun q54 => w_FnCorners_l2_s4 z q12 q13 q14 q21 q22 q23 q52 q53 q54 h0_n h0 q9 q10 q11 q15 q19 q20 q24 q25 q29 q30 q34 q38 q42 q43 q47 q48 N 0 0 (fun q55 => cond (q53 != q52) (k0 false) (cond (fits .i64 (q20 0 + q20 3)) (cond (q53 != q20 0 + q20 3) (k0 false) (cond (q55 != q54) (k0 false) (cond (q13.ble 9223372036854775807) (cond (fits .i64 (2 * q9)) (cond ((↑q13 : Int) != 2 * q9) (k0 false) (cond (fits .i64 (q20 1 + q20 2)) (cond (fits .i64 (2 * q9)) (cond (fits .i64 (2 * q9 - q53)) (cond (q20 1 + q20 2 != 2 * q9 - q53) (k0 false) (k0 true)) (z)) (z)) (z))) (z)) (z)))) (z)))))))))))) (z)) (z)))))))))))))) (z)) (z))))))
end Go.AM
namespace Go.AM
section
variable {β : Type}
theorem likeInts2 (z : β) {N : Nat} (hN : 100 < N) (a b : Int) (k : Bool -> β) : w_likeInts_s3 z N 2 2 2 2 2 2 [a, b] [a, b] k = k true :=
  likeInts_val z (N := N) (xs := [a, b]) (by show 2 < N; omega) (by show 2 <= 1000; omega) k
structure CrnP (N n : Nat) (X O : Nat -> Int) : Prop where
  wl : (wordsS n X O).length <= 8
  ww : ∀ j, j < (wordsS n X O).length -> ((wordsS n X O)[j]?.getD []).length <= 100 ∧ ((wordsS n X O)[j]?.getD []).length % 2 = 0
  tl : (numsT n X O).length <= 8
  tw : ∀ j, j < (numsT n X O).length -> (rowAt (numsT n X O) j).length = 2 ∧ -100 <= (rowAt (numsT n X O) j)[1]?.getD 0 ∧ (rowAt (numsT n X O) j)[1]?.getD 0 <= 100
  ls : sumI (fun j => (((wordsS n X O)[j]?.getD []).length : Int)) (wordsS n X O).length = cuspT n X O
  rs : sumI (fun j => (rowAt (numsT n X O) j)[1]?.getD 0) (numsT n X O).length = rotS n X O
  n1 : TabP (idsOf (numsT n X O)) (numsT n X O) (numsT n X O)
  n2 : SmallT N (numsT n X O)
  t1 : TabP (idsOf (turnT n X O)) (turnT n X O) (turnT n X O)
  t2 : SmallT N (turnT n X O)
  cb : 0 <= cuspT n X O ∧ cuspT n X O <= 2 * (n : Int)
theorem crn {N n : Nat} {X O : Nat -> Int} (h : FrP N n X O n) : CrnP N n X O := by
  have hN := h.N
  have hX := h.F.x
  have hO := h.F.o
  have g := h.g
  have h8 := g.hi
  obtain ⟨L, e1, e2⟩ := cmp_links g hX hO
  have hcn := L.cn
  have hnum := wordsS_num g hX hO
  have hT := numsT_len n X O
  have hr : ∀ j, j < cmpC n X O -> rowAt (numsT n X O) j = numsC n X O j := fun j hj => by unfold rowAt numsT; simp [hj]
  have hcu := cuspS_bd (cornersL n X O) (fun _ => false) (2 * n)
  have ti := turnT_inv g hX hO
  refine ⟨by omega, fun j hj => ?_, by omega, fun j hj => ?_, ?_, ?_, TabP.of_app _, numsT_small hN (by omega), TabP.of_app _, ?_, ?_⟩
  · obtain ⟨c1, c2, _⟩ := comp_cusps g hX hO (c := j) (by omega)
    have := cuspS_bd (cornersL n X O) (skipC (compS (nxtC n X O) n).1 j) (2 * n)
    exact ⟨by omega, c2⟩
  · rw [hr j (by omega)]
    obtain ⟨⟨q1, q2, q3⟩, q4⟩ := numsC_bd h8 X O j
    have := tdiv2_bd (x := (cuspC n X O j).1 - (cuspC n X O j).2) (m := 16) (by omega)
    refine ⟨rfl, ?_⟩
    show -100 <= ((cuspC n X O j).1 - (cuspC n X O j).2).tdiv 2 ∧ ((cuspC n X O j).1 - (cuspC n X O j).2).tdiv 2 <= 100
    omega
  · exact letters_sum g hX hO
  · rw [<- rot_sum g hX hO, hT, show (wordsS n X O).length = cmpC n X O by omega]
    exact sumI_congr fun j hj => by rw [hr j hj]; rfl
  · have hl := ti.len
    refine ⟨?_, fun i hi => ?_⟩
    · show (turnT n X O).length < N ∧ (turnT n X O).length <= 1000
      have : (turnT n X O).length = 4 := hl
      omega
    · have := ti.row i (by have : (turnT n X O).length = 4 := hl; omega)
      have e : (rowAt (turnT n X O) i).length = 2 := this
      omega
  · unfold cuspT
    omega
theorem w_FnCorners_or (z : β) {N : Nat} (hN : 5000 < N) (n l c hn : Nat) (h : Nat -> Int) (hq : n = hn) (hl : l = hn) (hs : l <= 9223372036854775807) (hb : ∀ j, j < hn -> 0 <= h j ∧ h j <= 255) :
    (∀ k0, cn_w_FnCorners z N n l c hn h k0 = k0 true) ∨ (∀ k0, ek_w_FnCorners z N n l c hn h k0 = k0 true) ∨ (∀ k0, el_w_FnCorners z N n l c hn h k0 = k0 true) := by
  by_cases hbig : (4096 : Int) < l
  · refine .inl fun k0 => ?_
    unfold cn_w_FnCorners w_big
    rw [c_ble (by omega), decide_eq_true hbig]
    rfl
  have S : Src hn h n l := ⟨hq, by omega, by omega, hb⟩
  obtain ⟨m, X, O, hX, hO, e⟩ := drawCorners_val z hN S c
  have first : ∀ x y : β, cond (decide ((4096 : Int) < l)) x y = y := fun x y => c_nlt (by omega)
  cases hg : gridB m X O with
  | false =>
    refine .inl fun k0 => ?_
    have P : FrA N m X O := ⟨by omega, hX, hO, hg⟩
    obtain ⟨N', rfl⟩ : ∃ N', N = N' + 1 := ⟨N - 1, by omega⟩
    have z0 : ∀ x y : β, cond (decide ((0 : Int) < 0)) x y = y := fun x y => rfl
    unfold cn_w_FnCorners w_big
    rw [c_ble (by omega)]
    simp only [first, e, cn_i_CornersOf, cn_s_CornersOf, cn_i_ComponentNumbers, cn_s_ComponentNumbers, cn_i_CuspWords, cn_s_CuspWords, cn_i_TurnNumbers, cn_s_TurnNumbers, cn_i_SelfLinkings, cn_s_SelfLinkings, c_bP P,
      w_FnCorners_l0, w_FnCorners_l0_s, w_FnCorners_l1, w_FnCorners_l1_s, rows5_nil z (show 0 < N' + 1 by omega), likeInts_nil z (show 0 < N' + 1 by omega), Bool.not_true, c_false, z0]
  | true =>
    obtain ⟨n', rfl, g⟩ := gridB_iff.1 hg
    have P : FrP N n' X O n' := ⟨by omega, rfl, g, hX, hO⟩
    have G : FrG N n' X O := ⟨n', P⟩
    have C := crn P
    have h8 := g.hi
    have hcb := C.cb
    have nb := nums_bd (X := X) (O := O) g.hi
    cases hk : ((compS (nxtC n' X O) n').2 == 1) with
    | true =>
      refine .inr (.inl fun k0 => ?_)
      have GK : FrK true N n' X O := ⟨n', P, hk⟩
      unfold ek_w_FnCorners w_big
      rw [c_ble (by omega)]
      simp only [first, e, ek_i_CornersOf, ek_s_CornersOf, c_bP G, Int.toNat_natCast]
      rw [c_ble (by omega), c_ble (by omega), c_nne rfl]
      obtain ⟨K, KI, f⟩ := kinds_val z (N := N) (by omega) (n := n') (X := X) (O := O) h8 hn h n' X O (xs := cornersL n' X O) rfl _ _
      refine f.trans ?_
      clear f
      have k0b := KI.nn 0 (by omega)
      have k1b := KI.nn 1 (by omega)
      have k2b := KI.nn 2 (by omega)
      have k3b := KI.nn 3 (by omega)
      have kc : K 0 + K 3 = cuspT n' X O := KI.cu
      have ka := KI.all
      simp only [ek_i_ComponentNumbers, ek_s_ComponentNumbers, ek_i_CuspWords, ek_s_CuspWords, ek_i_TurnNumbers, ek_s_TurnNumbers, ek_i_SelfLinkings, ek_s_SelfLinkings, ek_i_CountCusps, ek_i_RotationOf, c_bP G, c_bP GK, Int.toNat_natCast,
        rows5_val z C.n1 C.n1 C.n2, rows5_val z C.t1 C.t1 C.t2, likeInts2 z (N := N) (by omega), Bool.not_true, c_false]
      have wl := C.wl
      rw [c_ble (by omega), c_ble (by omega), c_nne rfl, letters_s4 z (by omega) (hT := C.wl) (hw := C.ww)]
      rw [total_s3 z (by omega) (hT := C.tl) (hw := C.tw), C.ls, C.rs]
      simp (disch := omega) only [c_nne, c_fits, c_ble]
    | false =>
      refine .inr (.inr fun k0 => ?_)
      have GK : FrK false N n' X O := ⟨n', P, hk⟩
      unfold el_w_FnCorners w_big
      rw [c_ble (by omega)]
      simp only [first, e, el_i_CornersOf, el_s_CornersOf, c_bP G, Int.toNat_natCast]
      rw [c_ble (by omega), c_ble (by omega), c_nne rfl]
      obtain ⟨K, KI, f⟩ := kinds_val z (N := N) (by omega) (n := n') (X := X) (O := O) h8 hn h n' X O (xs := cornersL n' X O) rfl _ _
      refine f.trans ?_
      clear f
      have k0b := KI.nn 0 (by omega)
      have k1b := KI.nn 1 (by omega)
      have k2b := KI.nn 2 (by omega)
      have k3b := KI.nn 3 (by omega)
      have kc : K 0 + K 3 = cuspT n' X O := KI.cu
      have ka := KI.all
      simp only [el_i_ComponentNumbers, el_s_ComponentNumbers, el_i_CuspWords, el_s_CuspWords, el_i_TurnNumbers, el_s_TurnNumbers, el_i_SelfLinkings, el_s_SelfLinkings, el_i_CountCusps, el_i_RotationOf, c_bP G, c_bP GK, Int.toNat_natCast,
        rows5_val z C.n1 C.n1 C.n2, rows5_val z C.t1 C.t1 C.t2, likeInts_nil z (show 0 < N by omega), Bool.not_true, c_false]
      have wl := C.wl
      rw [c_ble (by omega), c_ble (by omega), c_nne rfl, letters_s5 z (by omega) (hT := C.wl) (hw := C.ww)]
      rw [total_s4 z (by omega) (hT := C.tl) (hw := C.tw), C.ls, C.rs]
      simp (disch := omega) only [c_nne, c_fits, c_ble]
end
end Go.AM
