/- A part of a proof about the given program: an abstract machine, what the given functions come to, and plain laws. -/
import Derived.Test.YtoginabccpjeoaaPallLawCrossings1
import Derived.Test.YtoginabccpjeoaaDallLawCrossings1
set_option linter.unusedVariables false
set_option linter.unusedSimpArgs false
namespace Go.AM
section
variable {n : Nat} {X O : Nat -> Int} {wh : Nat -> Nat}
theorem pS_pre {s t : List Int} (hl : s.length = 3 * (s.length / 3)) (a b : Nat) : ∀ m, m <= s.length / 3 -> pS n X wh (s ++ t) m a b = pS n X wh s m a b := by
  intro m
  induction m with
  | zero => exact fun _ => rfl
  | succ m ih =>
    intro hm
    have eA : lA wh (s ++ t) m = lA wh s m := by unfold lA; rw [List.getElem?_append_left (by omega)]
    have eB : lB n X wh (s ++ t) m = lB n X wh s m := by unfold lB; rw [List.getElem?_append_left (by omega)]
    rw [pS_succ, pS_succ, ih (by omega), eA, eB, List.getElem?_append_left (by omega)]
theorem pS_app {s : List Int} (hl : s.length = 3 * (s.length / 3)) (i r : Nat) (v : Int) (a b : Nat) :
    pS n X wh (s ++ [(i : Int), (r : Int), v]) ((s ++ [(i : Int), (r : Int), v]).length / 3) a b = pS n X wh s (s.length / 3) a b + if wh i = a ∧ wh (rowOf n X r) = b then v else 0 := by
  rw [show (s ++ [(i : Int), (r : Int), v]).length / 3 = s.length / 3 + 1 by simp, pS_succ, pS_pre hl a b _ (Nat.le_refl _)]
  have eA : lA wh (s ++ [(i : Int), (r : Int), v]) (s.length / 3) = wh i := by unfold lA; rw [List.getElem?_append_right (by omega), show s.length / 3 * 3 - s.length = 0 by omega]; rfl
  have eB : lB n X wh (s ++ [(i : Int), (r : Int), v]) (s.length / 3) = wh (rowOf n X r) := by unfold lB; rw [List.getElem?_append_right (by omega), show s.length / 3 * 3 + 1 - s.length = 1 by omega]; rfl
  have eV : (s ++ [(i : Int), (r : Int), v])[s.length / 3 * 3 + 2]?.getD 0 = v := by rw [List.getElem?_append_right (by omega), show s.length / 3 * 3 + 2 - s.length = 2 by omega]; rfl
  rw [eA, eB, eV]
  by_cases e : wh i = a ∧ wh (rowOf n X r) = b
  · rw [if_pos e, if_pos e]
  · rw [if_neg e, if_neg e, Int.add_zero]
theorem pS_lnk (a b : Nat) : pS n X wh (crossL n X O) ((crossL n X O).length / 3) a b = lnk n X O wh a b := by
  have row : ∀ (i m : Nat) (s : List Int), CrossI m s -> ∀ d, pS n X wh (iter (crossF n X O i) d 0 s) ((iter (crossF n X O i) d 0 s).length / 3) a b = pS n X wh s (s.length / 3) a b + sumI (fun r => if wh i = a ∧ wh (rowOf n X r) = b then crossV n X O i r else 0) d := by
    intro i m s hs d
    induction d with
    | zero => exact (Int.add_zero _).symm
    | succ d ih =>
      rw [iter_succ, Nat.zero_add, sumI]
      have hl := (hs.row (X := X) (O := O) (n := n) (i := i) d).len
      generalize iter (crossF n X O i) d 0 s = t at *
      by_cases e : crossV n X O i d = 0
      · have e' : crossF n X O i d t = t := by unfold crossF; rw [show (crossV n X O i d != 0) = false by simpa using e, c_false]
        rw [e', ih, e, ite_self, Int.add_zero]
      · have e' : crossF n X O i d t = t ++ [(i : Int), (d : Int), crossV n X O i d] := by unfold crossF; rw [show (crossV n X O i d != 0) = true by simpa using e, c_true]
        rw [e', pS_app hl, ih, Int.add_assoc]
  have all : ∀ d, pS n X wh (iter (crossR n X O) d 0 []) ((iter (crossR n X O) d 0 []).length / 3) a b = sumI (fun i => sumI (fun r => if wh i = a ∧ wh (rowOf n X r) = b then crossV n X O i r else 0) n) d := by
    intro d
    induction d with
    | zero => rw [show (iter (crossR n X O) 0 0 ([] : List Int)).length / 3 = 0 by simp [iter]]; unfold pS; rfl
    | succ d ih =>
      rw [iter_succ, Nat.zero_add, sumI, <- ih]
      exact row d (n * d) _ (CrossI.all d) n
  exact all n
theorem lnk_total (g : GridP n X O) (hX : ∀ j, 0 <= X j) {cnt : Nat} (hw : ∀ i, i < n -> wh i < cnt) : sumI (fun a => sumI (fun b => lnk n X O wh a b) cnt) cnt = sumI (fun i => sumI (fun r => crossV n X O i r) n) n := by
  unfold lnk
  have e1 : ∀ a, sumI (fun b => sumI (fun i => sumI (fun r => if wh i = a ∧ wh (rowOf n X r) = b then crossV n X O i r else 0) n) n) cnt = sumI (fun i => if wh i = a then sumI (fun r => crossV n X O i r) n else 0) n := fun a => by
    rw [sumI_swap]
    refine sumI_congr fun i hi => ?_
    rw [sumI_swap]
    by_cases e : wh i = a
    · rw [if_pos e]
      refine sumI_congr fun r hr => ?_
      have hR := hw _ (rowOf_spec g.px hX hr).1
      rw [sumI_congr (g := fun b => if b = wh (rowOf n X r) then crossV n X O i r else 0) fun b _ => ?_, sumI_one hR fun _ => crossV n X O i r]
      by_cases q : b = wh (rowOf n X r)
      · rw [if_pos ⟨e, q.symm⟩, if_pos q]
      · rw [if_neg (fun h => q h.2.symm), if_neg q]
    · rw [if_neg e, sumI_congr (g := fun _ => 0) fun r _ => ?_, sumI_zero]
      rw [sumI_congr (g := fun _ => 0) fun b _ => if_neg (fun h => e h.1), sumI_zero]
  rw [sumI_congr fun a _ => e1 a, sumI_swap]
  refine sumI_congr fun i hi => ?_
  rw [sumI_congr (g := fun a => if a = wh i then sumI (fun r => crossV n X O i r) n else 0) fun a _ => ?_, sumI_one (hw i hi) fun _ => sumI (fun r => crossV n X O i r) n]
  by_cases q : a = wh i
  · rw [if_pos q, if_pos q.symm]
  · rw [if_neg q, if_neg (Ne.symm q)]
theorem cmp_closed (g : GridP n X O) (hX : ∀ j, 0 <= X j) (hO : ∀ j, 0 <= O j) : ∀ i, i < n -> cmpN n X O (nxtC n X O i) = cmpN n X O i := fun i hi => by
  unfold cmpN
  rw [(comp_all g.hi (nxtC_lt g hX hO) (nxtC_inj g hX hO)).cl i hi]
theorem linkD_sym (xs : List Int) (a b : Nat) : linkD n X wh xs a b = linkD n X wh xs b a := by
  unfold linkD
  by_cases e : a = b
  · rw [e]
  · rw [if_neg e, if_neg (Ne.symm e), Int.add_comm]
theorem linkD_total (g : GridP n X O) (hX : ∀ j, 0 <= X j) (hO : ∀ j, 0 <= O j) : sumI (fun a => sumI (fun b => linkD n X (cmpN n X O) (crossL n X O) a b) (cmpC n X O)) (cmpC n X O) = writheS (crossL n X O) := by
  obtain ⟨L, _, _⟩ := cmp_links g hX hO
  rw [writhe_sum, <- lnk_total g hX L.wh]
  have pair : ∀ a b, linkD n X (cmpN n X O) (crossL n X O) a b + linkD n X (cmpN n X O) (crossL n X O) b a = lnk n X O (cmpN n X O) a b + lnk n X O (cmpN n X O) b a := fun a b => by
    rw [linkD_sym _ b a]
    unfold linkD
    by_cases e : a = b
    · subst e; rw [if_pos rfl, pS_lnk]
    · rw [if_neg e, pS_lnk, pS_lnk]
      have := lnk_even g hX hO (cmp_closed g hX hO) e
      rw [Int.tdiv_eq_ediv_of_dvd (Int.dvd_of_emod_eq_zero this)]
      omega
  have s1 := sumI_swap (fun a b => linkD n X (cmpN n X O) (crossL n X O) a b) (cmpC n X O) (cmpC n X O)
  have s2 := sumI_swap (fun a b => lnk n X O (cmpN n X O) a b) (cmpC n X O) (cmpC n X O)
  have s3 : sumI (fun a => sumI (fun b => linkD n X (cmpN n X O) (crossL n X O) a b) (cmpC n X O)) (cmpC n X O) + sumI (fun a => sumI (fun b => linkD n X (cmpN n X O) (crossL n X O) b a) (cmpC n X O)) (cmpC n X O) =
      sumI (fun a => sumI (fun b => lnk n X O (cmpN n X O) a b) (cmpC n X O)) (cmpC n X O) + sumI (fun a => sumI (fun b => lnk n X O (cmpN n X O) b a) (cmpC n X O)) (cmpC n X O) := by
    rw [<- sumI_add, <- sumI_add]
    refine sumI_congr fun a _ => ?_
    rw [<- sumI_add, <- sumI_add]
    exact sumI_congr fun b _ => pair a b
  omega
end
end Go.AM
namespace Go.AM
section
theorem crossV_ite (n : Nat) (X O : Nat -> Int) (i r : Nat) : crossV n X O i r =
    if ((X i < r ∧ (r : Int) < O i) ∨ (O i < r ∧ (r : Int) < X i)) ∧ ((rowOf n X r < i ∧ i < rowOf n O r) ∨ (rowOf n O r < i ∧ i < rowOf n X r)) then (if X i < O i ↔ rowOf n X r < rowOf n O r then 1 else -1) else 0 := by
  have bt : ∀ x a b : Int, betB x a b = decide ((a < x ∧ x < b) ∨ (b < x ∧ x < a)) := fun x a b => by
    unfold betB
    rw [Bool.eq_iff_iff, Bool.and_eq_true, decide_eq_true_iff, decide_eq_true_iff, decide_eq_true_iff, c_dec, c_dec]
    split <;> split <;> omega
  unfold crossV
  rw [bt, bt]
  by_cases h1 : (X i < r ∧ (r : Int) < O i) ∨ (O i < r ∧ (r : Int) < X i)
  · rw [decide_eq_true h1, cond_true]
    by_cases h2 : (rowOf n X r < i ∧ i < rowOf n O r) ∨ (rowOf n O r < i ∧ i < rowOf n X r)
    · rw [decide_eq_true (by omega), cond_true, if_pos ⟨h1, h2⟩]
      by_cases h3 : X i < O i <;> by_cases h4 : rowOf n X r < rowOf n O r <;> simp [h3, h4]
    · rw [decide_eq_false (by omega), cond_false, if_neg (fun h => h2 h.2)]
  · rw [decide_eq_false h1, cond_false, if_neg (fun h => h1 h.1)]
structure FrontG (n : Nat) (X O : Nat -> Int) : Prop where
  g : GridP n X O
  x : ∀ j, 0 <= X j
  o : ∀ j, 0 <= O j
theorem sum2_congr {n m : Nat} {f g : Nat -> Nat -> Int} (h : ∀ i k, i < n -> k < m -> f i k = g i k) : sumI (fun i => sumI (fun k => f i k) m) n = sumI (fun i => sumI (fun k => g i k) m) n :=
  sumI_congr fun i hi => sumI_congr fun k hk => h i k hi hk
end
end Go.AM
namespace Go.AM
section
variable {β : Type}
end
end Go.AM
namespace Go.AM
section
end
end Go.AM
namespace Go.AM
section
end
end Go.AM
namespace Go.AM
section
theorem crossV_swap (n : Nat) (X O : Nat -> Int) (i r : Nat) : crossV n O X i r = crossV n X O i r := by
  rw [crossV_ite, crossV_ite]
  by_cases h : ((X i < r ∧ (r : Int) < O i) ∨ (O i < r ∧ (r : Int) < X i)) ∧ ((rowOf n X r < i ∧ i < rowOf n O r) ∨ (rowOf n O r < i ∧ i < rowOf n X r))
  · rw [if_pos h, if_pos (by omega)]
    by_cases h1 : X i < O i ↔ rowOf n X r < rowOf n O r
    · rw [if_pos h1, if_pos (by omega)]
    · rw [if_neg h1, if_neg (by omega)]
  · rw [if_neg h, if_neg (by omega)]
theorem writhe_swap (n : Nat) (X O : Nat -> Int) : writheS (crossL n O X) = writheS (crossL n X O) := by
  rw [writhe_sum, writhe_sum]
  exact sum2_congr fun i r _ _ => crossV_swap n X O i r
end
end Go.AM
namespace Go.AM
section
variable {β : Type}
end
end Go.AM
namespace Go.AM
section
variable {β : Type}
theorem wrap8t {t : Nat} (h : t < 256) : wrapU .u8 (t : Int) = t := by
  show (t : Int) % 256 = t
  omega
abbrev TurnSt := (Nat -> Int) × (Nat -> Int) × List (List Int)
structure TurnI (n i : Nat) (s : TurnSt) : Prop where
  g : GridP n s.1 s.2.1
  x : ∀ j, 0 <= s.1 j
  o : ∀ j, 0 <= s.2.1 j
  len : s.2.2.length = i
  row : ∀ j, j < i -> (rowAt s.2.2 j).length = 2
end
end Go.AM
namespace Go.AM
section
variable {β : Type}
end
end Go.AM
namespace Go.AM
section
variable {β : Type}
end
end Go.AM
namespace Go.AM
section
variable {β : Type}
end
end Go.AM
namespace Go.AM
section
variable {β : Type}
end
end Go.AM
namespace Go.AM
section
variable {β : Type}
end
end Go.AM
namespace Go.AM
section
variable {β : Type}
end
end Go.AM
namespace Go.AM
section
variable {β : Type}
theorem wrapD {x : Int} (h : 0 <= x ∧ x <= 255) : wrapU .u8 x = x := by
  show x % 256 = x
  omega
structure Src (hn : Nat) (h : Nat -> Int) (n l : Nat) : Prop where
  eq : n = hn
  le : l <= hn
  sm : l <= 4096
  b : ∀ j, j < hn -> 0 <= h j ∧ h j <= 255
theorem and_bd (x : Int) : 0 <= bitI .and .u64 x 16777215 ∧ bitI .and .u64 x 16777215 <= 16777215 := by
  rw [bitI_eq]
  have e : bitJ .and .u64 x 16777215 = IntKind.wrap .u64 ((BitVec.ofInt 64 x &&& BitVec.ofInt 64 16777215).toNat : Int) := rfl
  have e2 : (BitVec.ofInt 64 16777215).toNat = 16777215 := by decide
  have h : (BitVec.ofInt 64 x &&& BitVec.ofInt 64 16777215).toNat <= 16777215 := by
    rw [BitVec.toNat_and, e2]
    exact Nat.and_le_right
  rw [e, wrap_fits]
  · omega
  · rw [fits_iff]
    show (0 : Int) <= _ ∧ _ <= (18446744073709551615 : Int)
    omega
theorem next_val (z : β) (N : Nat) {hn n l : Nat} {h : Nat -> Int} (S : Src hn h n l) (c : Nat) (m : Int) {a : Int} (ha : 0 <= a) (b : Int) :
    ∃ v a' b' : Int, 0 <= a' ∧ (1 <= m -> 0 <= v ∧ v < m) ∧ (m < 1 -> v = 0) ∧ ∀ k, q02c z N m hn h n l c a b k = k v a' b' := by
  have hq := S.eq
  have hl := S.le
  have hs := S.sm
  have hb := S.b
  by_cases hm : m < 1
  · exact ⟨0, a, b, ha, fun h => by omega, fun _ => rfl, fun k => by unfold q02c; rw [c_lt hm]⟩
  · obtain ⟨b', hb'⟩ : ∃ b', wrapU .u64 (wrapU .u64 (b * 6364136223846793005) + 1442695040888963407) = b' := ⟨_, rfl⟩
    obtain ⟨x, hxe⟩ : ∃ x, bitI BinOp.and IntKind.u64 (shrI b' 33) 16777215 = x := ⟨_, rfl⟩
    have hx := and_bd (shrI b' 33)
    rw [hxe] at hx
    by_cases e : a < l
    · have hc := hb a.toNat (by omega)
      refine ⟨(x + h a.toNat).tmod m, a + 1, b', by omega, fun _ => ⟨Int.tmod_nonneg _ (by omega), Int.tmod_lt_of_pos _ (by omega)⟩, fun h => absurd h hm, fun k => ?_⟩
      unfold q02c
      simp only [c_and, c_not, hb', hxe]
      simp (disch := omega) only [c_nlt, c_lt, c_le, c_ble, c_blt, c_beq, c_fits, c_neq]
    · refine ⟨x.tmod m, a, b', ha, fun _ => ⟨Int.tmod_nonneg _ (by omega), Int.tmod_lt_of_pos _ (by omega)⟩, fun h => absurd h hm, fun k => ?_⟩
      unfold q02c
      simp only [c_and, c_not, hb', hxe]
      simp (disch := omega) only [c_nlt, c_lt, c_le, c_ble, c_blt, c_beq, c_fits, c_neq]
theorem from_val (z : β) {N : Nat} (hN : 5000 < N) {hn n l : Nat} {h : Nat -> Int} (S : Src hn h n l) (c : Nat) : ∃ b : Int, ∀ k, q02b z N n l c hn h k = k 0 b := by
  have hq := S.eq
  have hl := S.le
  have hs := S.sm
  refine ⟨iter (fun i b => wrapU .u64 (wrapU .u64 (wrapU .u64 (b * 1099511628211) + h i) + 43)) l 0 (wrapU .u64 (10711 + wrapU .u64 (↑l : Int))), fun k => ?_⟩
  · unfold q02b
    rw [c_ble (by omega)]
    exact up_to (L := fun m i b => q02a z n l c hn h n l c 0 m (i : Int) b fun q8 => k 0 q8) (n := l) (out := fun b => k 0 b) (f := fun i b => wrapU .u64 (wrapU .u64 (wrapU .u64 (b * 1099511628211) + h i) + 43)) (I := fun _ _ => True)
      (fun m i s hi _ => ⟨by
        rw [q02a, q029]
        simp only [c_and, Int.toNat_natCast]
        simp (disch := omega) only [c_lt, c_le, c_ble, c_blt, c_beq, c_fits]
        rfl, trivial⟩)
      (fun m s _ => by
        rw [q02a, q029]
        simp (disch := omega) only [c_ble, c_nlt]) l N 0 _ (by omega) (by omega) trivial
structure BndC (n : Nat) (f : Nat -> Int) : Prop where
  b : ∀ j, j < n -> 0 <= f j ∧ f j < n
  z : ∀ j, n <= j -> f j = 0
theorem BndC.upd {n i : Nat} {f : Nat -> Int} {v : Int} (h : BndC n f) (hi : i < n) (hv : 0 <= v ∧ v < n) : BndC n (upd f i v) :=
  ⟨fun j hj => by rw [upd_at]; split; exact hv; exact h.b j hj, fun j hj => by rw [upd_at, if_neg (by omega)]; exact h.z j hj⟩
theorem BndC.nn {n : Nat} {f : Nat -> Int} (h : BndC n f) (j : Nat) : 0 <= f j := by
  rcases Nat.lt_or_ge j n with hj | hj
  · exact (h.b j hj).1
  · rw [h.z j hj]; exact Int.le_refl 0
theorem BndC.le {n : Nat} {f : Nat -> Int} (h : BndC n f) (h8 : n <= 256) (j : Nat) : f j <= 255 := by
  rcases Nat.lt_or_ge j n with hj | hj
  · have := h.b j hj; omega
  · rw [h.z j hj]; omega
theorem BndC.zero (n : Nat) (h : 1 <= n) : BndC n fun _ => 0 := ⟨fun _ _ => by constructor <;> simp <;> omega, fun _ _ => rfl⟩
theorem up_to_exD {σ κ : Type} {L : κ -> Nat -> Nat -> σ -> β} {n : Nat} {out : κ -> σ -> β} {I : Nat -> σ -> Prop}
    (hs : ∀ i s, i < n -> I i s -> ∃ s', (∀ k m, L k (m + 1) i s = L k m (i + 1) s') ∧ I (i + 1) s') (he : ∀ k m s, I n s -> L k (m + 1) n s = out k s) :
    ∀ (d i : Nat) (s : σ), i + d = n -> I i s -> ∃ s', I n s' ∧ ∀ k m, d < m -> L k m i s = out k s' := by
  intro d
  induction d with
  | zero =>
    intro i s hi h0
    have : i = n := by omega
    subst this
    refine ⟨s, h0, fun k m hm => ?_⟩
    obtain ⟨m, rfl⟩ : ∃ m', m = m' + 1 := ⟨m - 1, by omega⟩
    exact he k m s h0
  | succ d ih =>
    intro i s hi h0
    obtain ⟨s', h1, h2⟩ := hs i s (by omega) h0
    obtain ⟨s'', h3, h4⟩ := ih (i + 1) s' (by omega) h2
    refine ⟨s'', h3, fun k m hm => ?_⟩
    obtain ⟨m, rfl⟩ : ∃ m', m = m' + 1 := ⟨m - 1, by omega⟩
    rw [h1]
    exact h4 k m (by omega)
theorem mixed_l0 (z : β) {N n : Nat} (hN : 8 < N) (h1 : 1 <= n) (h8 : n <= 8) (hn : Nat) (h : Nat -> Int) (n' l c : Nat) (a b : Int) (h2 : Nat -> Int) :
    ∃ f, BndC n f ∧ ∀ k, q02f z n hn h n' l c a b h2 N 0 (fun (x : Nat) => 0) k = k f := by
  obtain ⟨f, i1, i2⟩ := up_to_exD (κ := (Nat -> Int) -> β) (L := fun k m i f => q02f z n hn h n' l c a b h2 m (i : Int) f k) (n := n) (out := fun k => k) (I := fun _ f => BndC n f)
    (fun i s hi hs => ⟨upd s i i, fun k m => by
      rw [q02f, q02e]
      simp only [c_and, Int.toNat_natCast]
      simp (disch := omega) only [c_lt, c_le, c_blt, c_fits]
      rw [wrapD (by omega)]
      rfl, hs.upd hi (by omega)⟩)
    (fun k m s _ => by rw [q02f, q02e, c_nlt (by omega)]) n 0 (fun _ => 0) (by omega) (BndC.zero n h1)
  exact ⟨f, i1, fun k => i2 k N (by omega)⟩
theorem mixed_l1 (z : β) {N : Nat} {hn n' l : Nat} {h : Nat -> Int} (S : Src hn h n' l) (c : Nat) {n : Nat} (h8 : n <= 8) (h2 : Nat -> Int) :
    ∀ (i : Nat), i < n -> ∀ (f : Nat -> Int) (a b : Int), BndC n f -> 0 <= a -> ∃ a' b' f', 0 <= a' ∧ BndC n f' ∧ ∀ k m, i < m -> q02h z N hn h n' l c h2 m i a b f k = k a' b' f' := by
  intro i
  induction i with
  | zero =>
    intro hi f a b hf ha
    refine ⟨a, b, f, ha, hf, fun k m hm => ?_⟩
    obtain ⟨m, rfl⟩ : ∃ m', m = m' + 1 := ⟨m - 1, by omega⟩
    rw [q02h, q02g, c_nlt (by omega)]
  | succ i ih =>
    intro hi f a b hf ha
    obtain ⟨v, a1, b1, ha1, hv, _, e⟩ := next_val z N S c (((i + 1 : Nat) : Int) + 1) ha b
    have hv := hv (by omega)
    obtain ⟨q, rfl⟩ : ∃ q : Nat, v = q := ⟨v.toNat, by omega⟩
    obtain ⟨a', b', f', ha', hf', e'⟩ := ih (by omega) (upd (upd f (i + 1) (f q)) q (f (i + 1))) a1 b1 ((hf.upd hi (hf.b q (by omega))).upd (by omega) (hf.b (i + 1) hi)) ha1
    refine ⟨a', b', f', ha', hf', fun k m hm => ?_⟩
    obtain ⟨m, rfl⟩ : ∃ m', m = m' + 1 := ⟨m - 1, by omega⟩
    rw [q02h, q02g, c_lt (by omega), c_fits (by omega), e]
    simp only [c_and, Int.toNat_natCast]
    simp (disch := omega) only [c_lt, c_le, c_blt, c_fits]
    rw [show ((i + 1 : Nat) : Int) - 1 = i by omega]
    exact e' k m (by omega)
theorem mixed_val (z : β) {N : Nat} (hN : 100 < N) {hn n' l : Nat} {h : Nat -> Int} (S : Src hn h n' l) (c : Nat) {n : Nat} (h1 : 1 <= n) (h8 : n <= 8) {a : Int} (ha : 0 <= a) (b : Int) :
    ∃ f a' b', BndC n f ∧ 0 <= a' ∧ ∀ k, q02i z N n hn h n' l c a b k = k f a' b' := by
  obtain ⟨f0, i1, e1⟩ := mixed_l0 z (N := N) (by omega) h1 h8 hn h n' l c a b (fun (x : Nat) => 0)
  obtain ⟨a', b', f', ha', hf', e'⟩ := mixed_l1 z (N := N) S c h8 (fun (x : Nat) => 0) (n - 1) (by omega) f0 a b i1 ha
  refine ⟨f', a', b', hf', ha', fun k => ?_⟩
  unfold q02i
  rw [e1, c_fits (by omega), show ((n : Int) - 1) = ((n - 1 : Nat) : Int) by omega, e' _ N (by omega)]
theorem ds_l0 (z : β) {N n : Nat} (hN : 100 < N) (h2 : 2 <= n) (h8 : n <= 8) (hn : Nat) (h : Nat -> Int) (n' l c : Nat) (a b y0 : Int) (y1 y2 x : Nat -> Int) {f : Nat -> Int} (hf : BndC n f) :
    ∃ f', BndC n f' ∧ ∀ k, q02k z n hn h n' l c a b y0 y1 y2 x N 0 f k = k f' := by
  obtain ⟨f', i1, i2⟩ := up_to_exD (κ := (Nat -> Int) -> β) (L := fun k m i f => q02k z n hn h n' l c a b y0 y1 y2 x m (i : Int) f k) (n := 3 * n) (out := fun k => k) (I := fun _ f => BndC n f)
    (fun i s hi hs => by
      have t1 : ((i : Int)).tmod n = ((i % n : Nat) : Int) := by rw [Int.tmod_eq_emod_of_nonneg (by omega)]; rfl
      have t2 : (((i % n : Nat) : Int) + 1).tmod n = (((i % n + 1) % n : Nat) : Int) := by rw [Int.tmod_eq_emod_of_nonneg (by omega)]; rfl
      have l1 : i % n < n := Nat.mod_lt _ (by omega)
      have l2 : (i % n + 1) % n < n := Nat.mod_lt _ (by omega)
      generalize i % n = p at *
      generalize hq : (p + 1) % n = q at *
      by_cases e : x p = s p
      · refine ⟨upd (upd s p (s q)) q (s p), fun k m => ?_, (hs.upd l1 (hs.b q l2)).upd l2 (hs.b p l1)⟩
        rw [q02k, q02j]
        simp only [c_and, c_not, t1, t2, Int.toNat_natCast]
        simp (disch := omega) only [c_lt, c_le, c_blt, c_fits, c_neq, c_eq]
        rfl
      · refine ⟨s, fun k m => ?_, hs⟩
        rw [q02k, q02j]
        simp only [c_and, c_not, t1, t2, Int.toNat_natCast]
        have e2 : cond (x p == s p) = fun (a b : β) => b := by funext a b; exact c_neq e
        simp (disch := omega) only [c_lt, c_le, c_blt, c_fits, e2]
        rw [c_neq (by omega)]
        rfl)
    (fun k m s _ => by rw [q02k, q02j, c_fits (by omega), c_nlt (by omega)]) (3 * n) 0 f (by omega) hf
  exact ⟨f', i1, fun k => i2 k N (by omega)⟩
theorem ds_l1 (z : β) {N n : Nat} (hN : 100 < N) (h2 : 2 <= n) (h8 : n <= 8) (hn : Nat) (h : Nat -> Int) (n' l c : Nat) (a b y0 y5 : Int) (y1 y2 y4 y6 : Nat -> Int) {x f : Nat -> Int} (hx : BndC n x) (hf : BndC n f) :
    ∃ f', BndC n f' ∧ ∀ k, q02m z n hn h n' l c a b y0 y1 y2 x y4 y5 y6 N 0 f k = k f' := by
  obtain ⟨f', i1, i2⟩ := up_to_exD (κ := (Nat -> Int) -> β) (L := fun k m i f => q02m z n hn h n' l c a b y0 y1 y2 x y4 y5 y6 m (i : Int) f k) (n := n) (out := fun k => k) (I := fun _ f => BndC n f)
    (fun i s hi hs => by
      have hb := hx.b i hi
      have q1 : 0 <= (x i + 1).tmod n ∧ (x i + 1).tmod n < n := ⟨Int.tmod_nonneg _ (by omega), Int.tmod_lt_of_pos _ (by omega)⟩
      refine ⟨upd s i ((x i + 1).tmod n), fun k m => ?_, hs.upd hi q1⟩
      rw [q02m, q02l]
      simp only [c_and, c_not, Int.toNat_natCast, wrapD (show 0 <= (x i + 1).tmod n ∧ (x i + 1).tmod n <= 255 by omega)]
      simp (disch := omega) only [c_lt, c_le, c_blt, c_fits, c_neq]
      rfl)
    (fun k m s _ => by rw [q02m, q02l, c_nlt (by omega)]) n 0 f (by omega) hf
  exact ⟨f', i1, fun k => i2 k N (by omega)⟩
theorem size_val (z : β) {N : Nat} (hN : 100 < N) {hn n' l : Nat} {h : Nat -> Int} (S : Src hn h n' l) (c : Nat) {n : Nat} (h2 : 2 <= n) (h8 : n <= 8) {a : Int} (ha : 0 <= a) (b : Int) :
    ∃ X O a' b', BndC n X ∧ BndC n O ∧ 0 <= a' ∧ ∀ k, q02n z N n hn h n' l c a b k = k X O a' b' := by
  obtain ⟨X, a1, b1, hX, ha1, e1⟩ := mixed_val z hN S c (by omega : 1 <= n) h8 ha b
  obtain ⟨O, a2, b2, hO, ha2, e2⟩ := mixed_val z hN S c (by omega : 1 <= n) h8 ha1 b1
  obtain ⟨O2, hO2, e3⟩ := ds_l0 z (N := N) hN h2 h8 hn h n' l c a2 b2 0 (fun (x : Nat) => 0) (fun (x : Nat) => 0) X hO
  cases hg : gridB n X O2 with
  | true =>
    refine ⟨X, O2, a2, b2, hX, hO2, ha2, fun k => ?_⟩
    unfold q02n
    rw [e1, e2, e3, s_l01Is_val z (by omega) _ _ _ hX.nn hO2.nn, hg]
    rfl
  | false =>
    obtain ⟨O3, hO3, e4⟩ := ds_l1 z (N := N) hN h2 h8 hn h n' l c a2 b2 0 n (fun (x : Nat) => 0) (fun (x : Nat) => 0) O2 X hX hO2
    refine ⟨X, O3, a2, b2, hX, hO3, ha2, fun k => ?_⟩
    unfold q02n
    rw [e1, e2, e3, s_l01Is_val z (by omega) _ _ _ hX.nn hO2.nn, hg, Bool.not_false, c_true, e4]
theorem pick3_val (z : β) (N : Nat) {hn n' l : Nat} {h : Nat -> Int} (S : Src hn h n' l) (c : Nat) {a : Int} (ha : 0 <= a) (b : Int) {xs : List Int} (hx : xs.length = 3) :
    ∃ (i : Nat) (a' b' : Int), i < 3 ∧ 0 <= a' ∧ ∀ k, q02d z N hn h n' l c a b xs k = k (xs[i]?.getD 0) a' b' := by
  obtain ⟨v, a1, b1, ha1, hv, _, e⟩ := next_val z N S c 3 ha b
  have hv := hv (by omega)
  obtain ⟨q, rfl⟩ : ∃ q : Nat, v = q := ⟨v.toNat, by omega⟩
  refine ⟨q, a1, b1, by omega, ha1, fun k => ?_⟩
  unfold q02d
  rw [e]
  simp only [c_and, Int.toNat_natCast, hx]
  simp (disch := omega) only [c_lt, c_le, c_blt, c_beq]
theorem pick5_val (z : β) (N : Nat) {hn n' l : Nat} {h : Nat -> Int} (S : Src hn h n' l) (c : Nat) {a : Int} (ha : 0 <= a) (b : Int) {xs : List Int} (hx : xs.length = 5) :
    ∃ (i : Nat) (a' b' : Int), i < 5 ∧ 0 <= a' ∧ ∀ k, q02o z N hn h n' l c a b xs k = k (xs[i]?.getD 0) a' b' := by
  obtain ⟨v, a1, b1, ha1, hv, _, e⟩ := next_val z N S c 5 ha b
  have hv := hv (by omega)
  obtain ⟨q, rfl⟩ : ∃ q : Nat, v = q := ⟨v.toNat, by omega⟩
  refine ⟨q, a1, b1, by omega, ha1, fun k => ?_⟩
  unfold q02o
  rw [e]
  simp only [c_and, Int.toNat_natCast, hx]
  simp (disch := omega) only [c_lt, c_le, c_blt, c_beq]
theorem draw_l0 (z : β) {N n : Nat} (hN : 100 < N) (h1 : 1 <= n) (h8 : n <= 8) {p : Int} (hp : 0 <= p ∧ p <= 8) (hn : Nat) (h : Nat -> Int) (n' l c : Nat) (a b y0 y3 : Int) (y1 y2 : Nat -> Int) :
    ∃ X O, BndC n X ∧ BndC n O ∧ ∀ k, q02q z p n hn h n' l c a b y0 y1 y2 y3 N 0 (fun (x : Nat) => 0) (fun (x : Nat) => 0) k = k X O := by
  obtain ⟨s, ⟨i1, i2⟩, e⟩ := up_to_exD (κ := (Nat -> Int) -> (Nat -> Int) -> β) (L := fun k m i (s : (Nat -> Int) × (Nat -> Int)) => q02q z p n hn h n' l c a b y0 y1 y2 y3 m (i : Int) s.1 s.2 k) (n := n) (out := fun k s => k s.1 s.2) (I := fun _ s => BndC n s.1 ∧ BndC n s.2)
    (fun i s hi ⟨h1, h2⟩ => by
      have q1 : 0 <= ((i : Int) + p).tmod n ∧ ((i : Int) + p).tmod n < n := ⟨Int.tmod_nonneg _ (by omega), Int.tmod_lt_of_pos _ (by omega)⟩
      refine ⟨(upd s.1 i i, upd s.2 i (((i : Int) + p).tmod n)), fun k m => ?_, h1.upd hi (by omega), h2.upd hi q1⟩
      rw [q02q, q02p]
      simp only [c_and, c_not, Int.toNat_natCast, wrapD (show 0 <= ((i : Int) + p).tmod n ∧ ((i : Int) + p).tmod n <= 255 by omega), wrapD (show 0 <= (i : Int) ∧ (i : Int) <= 255 by omega)]
      simp (disch := omega) only [c_lt, c_le, c_blt, c_fits, c_neq]
      rfl)
    (fun k m s _ => by rw [q02q, q02p, c_nlt (by omega)]) n 0 (fun _ => 0, fun _ => 0) (by omega) ⟨BndC.zero n h1, BndC.zero n h1⟩
  exact ⟨s.1, s.2, i1, i2, fun k => e k N (by omega)⟩
theorem roll_bnd {n : Nat} (h1 : 1 <= n) (X O : Nat -> Int) (v u : Int) (h8 : n <= 8) : BndC n (rollP n X O v u).1 ∧ BndC n (rollP n X O v u).2 := by
  have := iter_inv (f := rollF n X O v u) (n := n) (I := fun _ s => BndC n s.1 ∧ BndC n s.2) (fun i s _ ⟨a, b⟩ => by
    have hn : (0 : Int) < n := by omega
    have e1 := emod_bd ((i : Int) + u) hn
    have e2 := emod_bd (X i + v) hn
    have e3 := emod_bd (O i + v) hn
    unfold rollF
    rw [wrapD (by omega), wrapD (by omega)]
    exact ⟨a.upd (by omega) e2, b.upd (by omega) e3⟩) n 0 (fun _ => 0, fun _ => 0) (by omega) ⟨BndC.zero n h1, BndC.zero n h1⟩
  exact this
theorem draw_val (z : β) {N : Nat} (hN : 100 < N) {hn n' l : Nat} {h : Nat -> Int} (S : Src hn h n' l) (c : Nat) {a : Int} (ha : 0 <= a) (b : Int) :
    ∃ (n : Nat) (X O : Nat -> Int) (a' b' : Int), 2 <= n ∧ n <= 8 ∧ BndC n X ∧ BndC n O ∧ 0 <= a' ∧ ∀ k, q02r z N hn h n' l c a b k = k n X O a' b' := by
  obtain ⟨v, a1, b1, ha1, hv, _, e⟩ := next_val z N S c 6 ha b
  have hv := hv (by omega)
  by_cases v0 : v = 0
  · obtain ⟨p, a2, b2, ha2, hp, _, e2⟩ := next_val z N S c 3 ha1 b1
    have hp := hp (by omega)
    obtain ⟨u, a3, b3, ha3, hu, _, e3⟩ := next_val z N S c (5 - (1 + p)) ha2 b2
    have hu := hu (by omega)
    obtain ⟨n, hn'⟩ : ∃ n : Nat, 1 + p + 1 + u = n := ⟨(1 + p + 1 + u).toNat, by omega⟩
    obtain ⟨X, O, hX, hO, e4⟩ := draw_l0 z (N := N) hN (by omega : 1 <= n) (by omega) (p := 1 + p) (by omega) hn h n' l c a3 b3 0 n (fun (x : Nat) => 0) (fun (x : Nat) => 0)
    obtain ⟨v1, a4, b4, ha4, hv1, _, e5⟩ := next_val z N S c n ha3 b3
    have hv1 := hv1 (by omega)
    obtain ⟨v2, a5, b5, ha5, hv2, _, e6⟩ := next_val z N S c n ha4 b4
    have hv2 := hv2 (by omega)
    obtain ⟨r1, r2⟩ := roll_bnd (by omega : 1 <= n) X O v1 v2 (by omega)
    refine ⟨n, (rollP n X O v1 v2).1, (rollP n X O v1 v2).2, a5, b5, by omega, by omega, r1, r2, ha5, fun k => ?_⟩
    unfold q02r
    rw [e, c_eq v0, e2, c_fits (by omega), c_fits (by omega), c_fits (by omega), e3, hn', c_fits (by omega), e4, e5, e6, s_l01Rolled_val z (by omega) (by omega) (by omega) (fun j => ⟨hX.nn j, hX.le (by omega) j⟩) (fun j => ⟨hO.nn j, hO.le (by omega) j⟩) (by omega) (by omega)]
  · have size : ∀ (n : Nat) (a b : Int), 2 <= n -> n <= 8 -> 0 <= a -> ∃ X O a' b', BndC n X ∧ BndC n O ∧ 0 <= a' ∧ ∀ k : Int -> (Nat -> Int) -> (Nat -> Int) -> Int -> Int -> β, q02n z N n hn h n' l c a b (fun q16 q17 q18 q19 => k n q16 q17 q18 q19) = k n X O a' b' := fun n a b h2 h8 ha => by
      obtain ⟨X, O, a', b', h1, h2, h3, h4⟩ := size_val z hN S c h2 h8 ha b
      exact ⟨X, O, a', b', h1, h2, h3, fun k => h4 _⟩
    by_cases v1 : v = 1
    · obtain ⟨i, a2, b2, hi, ha2, e2⟩ := pick3_val z N S c ha1 b1 (xs := (((List.replicate 3 (0 : Int)).set 0 6).set 1 7).set 2 8) rfl
      obtain ⟨n, hn', h2, h8⟩ : ∃ n : Nat, ((((List.replicate 3 (0 : Int)).set 0 6).set 1 7).set 2 8)[i]?.getD 0 = n ∧ 2 <= n ∧ n <= 8 := by
        have : i = 0 ∨ i = 1 ∨ i = 2 := by omega
        rcases this with rfl | rfl | rfl
        · exact ⟨6, rfl, by omega, by omega⟩
        · exact ⟨7, rfl, by omega, by omega⟩
        · exact ⟨8, rfl, by omega, by omega⟩
      obtain ⟨X, O, a3, b3, hX, hO, ha3, e3⟩ := size n a2 b2 h2 h8 ha2
      refine ⟨n, X, O, a3, b3, h2, h8, hX, hO, ha3, fun k => ?_⟩
      unfold q02r
      rw [e, c_neq v0, c_eq v1, e2, hn', e3]
    · obtain ⟨i, a2, b2, hi, ha2, e2⟩ := pick5_val z N S c ha1 b1 (xs := (((((List.replicate 5 (0 : Int)).set 0 2).set 1 3).set 2 4).set 3 5).set 4 5) rfl
      obtain ⟨n, hn', h2, h8⟩ : ∃ n : Nat, ((((((List.replicate 5 (0 : Int)).set 0 2).set 1 3).set 2 4).set 3 5).set 4 5)[i]?.getD 0 = n ∧ 2 <= n ∧ n <= 8 := by
        have : i = 0 ∨ i = 1 ∨ i = 2 ∨ i = 3 ∨ i = 4 := by omega
        rcases this with rfl | rfl | rfl | rfl | rfl
        · exact ⟨2, rfl, by omega, by omega⟩
        · exact ⟨3, rfl, by omega, by omega⟩
        · exact ⟨4, rfl, by omega, by omega⟩
        · exact ⟨5, rfl, by omega, by omega⟩
        · exact ⟨5, rfl, by omega, by omega⟩
      obtain ⟨X, O, a3, b3, hX, hO, ha3, e3⟩ := size n a2 b2 h2 h8 ha2
      refine ⟨n, X, O, a3, b3, h2, h8, hX, hO, ha3, fun k => ?_⟩
      unfold q02r
      rw [e, c_neq v0, c_neq v1, e2, hn', e3]
structure Byt (f : Nat -> Int) : Prop where
  b : ∀ j, 0 <= f j ∧ f j <= 255
  z : ∀ j, 8 <= j -> f j = 0
theorem BndC.byt {n : Nat} {f : Nat -> Int} (h : BndC n f) (h8 : n <= 8) : Byt f := ⟨fun j => ⟨h.nn j, h.le (by omega) j⟩, fun j hj => h.z j (by omega)⟩
theorem broken_val (z : β) (N : Nat) {hn n' l : Nat} {h : Nat -> Int} (S : Src hn h n' l) (c : Nat) {n : Nat} (hn8 : n <= 8) {X O : Nat -> Int} (hX : Byt X) (hO : Byt O) {a : Int} (ha : 0 <= a) (b : Int) :
    ∃ (m : Int) (Y P : Nat -> Int) (a' b' : Int), (-1 <= m ∧ m <= 9) ∧ Byt Y ∧ Byt P ∧ 0 <= a' ∧ ∀ k, q02s z N n X O hn h n' l c a b k = k m Y P a' b' := by
  obtain ⟨v, a1, b1, ha1, hv, _, e⟩ := next_val z N S c 40 ha b
  by_cases v0 : v = 0
  · obtain ⟨i, a2, b2, hi, ha2, e2⟩ := pick5_val z N S c ha1 b1 (xs := (((((List.replicate 5 (0 : Int)).set 0 0).set 1 1).set 2 9).set 3 (-1)).set 4 ((n : Int) - 1)) rfl
    refine ⟨((((((List.replicate 5 (0 : Int)).set 0 0).set 1 1).set 2 9).set 3 (-1)).set 4 ((n : Int) - 1))[i]?.getD 0, X, O, a2, b2, ?_, hX, hO, ha2, fun k => ?_⟩
    rotate_left 1
    · unfold q02s
      rw [e, c_eq v0, c_fits (by omega), e2]
    · have : i = 0 ∨ i = 1 ∨ i = 2 ∨ i = 3 ∨ i = 4 := by omega
      rcases this with rfl | rfl | rfl | rfl | rfl
      · show (-1 : Int) <= 0 ∧ (0 : Int) <= 9; omega
      · show (-1 : Int) <= 1 ∧ (1 : Int) <= 9; omega
      · show (-1 : Int) <= 9 ∧ (9 : Int) <= 9; omega
      · show (-1 : Int) <= -1 ∧ (-1 : Int) <= 9; omega
      · show (-1 : Int) <= (n : Int) - 1 ∧ (n : Int) - 1 <= 9; omega
  · by_cases v1 : v = 1
    · obtain ⟨q, a2, b2, ha2, hq, _, e2⟩ := next_val z N S c 8 ha1 b1
      have hq := hq (by omega)
      obtain ⟨w, a3, b3, ha3, hw, _, e3⟩ := next_val z N S c 9 ha2 b2
      have hw := hw (by omega)
      refine ⟨n, X, upd O q.toNat w, a3, b3, by omega, hX, ⟨fun j => ?_, fun j hj => ?_⟩, ha3, fun k => ?_⟩
      · rw [upd_at]; split
        · omega
        · exact hO.b j
      · rw [upd_at, if_neg (by omega)]; exact hO.z j hj
      · unfold q02s
        rw [e, c_neq v0, c_eq v1, e2, e3]
        simp only [c_and, wrapD (show 0 <= w ∧ w <= 255 by omega)]
        simp (disch := omega) only [c_lt, c_le, c_blt]
    · by_cases v2 : v = 2
      · exact ⟨n, O, O, a1, b1, by omega, hO, hO, ha1, fun k => by unfold q02s; rw [e, c_neq v0, c_neq v1, c_eq v2]⟩
      · exact ⟨n, X, O, a1, b1, by omega, hX, hO, ha1, fun k => by unfold q02s; rw [e, c_neq v0, c_neq v1, c_neq v2]⟩
end
end Go.AM
namespace Go.AM
section
variable {β : Type}
noncomputable def bP (p : Prop) : Bool := @decide p (Classical.propDecidable p)
theorem bP_true {p : Prop} (h : p) : bP p = true := @decide_eq_true p (Classical.propDecidable p) h
theorem cond_some {α : Type} {p : Prop} {x : Option α} {r : α} (h : cond (bP p) x none = some r) : p ∧ x = some r := by
  cases hb : bP p with
  | false => rw [hb] at h; cases h
  | true => rw [hb] at h; exact ⟨@of_decide_eq_true p (Classical.propDecidable p) hb, h⟩
theorem c_bP {p : Prop} (h : p) {x y : β} : cond (bP p) x y = x := by rw [bP_true h]; rfl
structure FrP (N : Nat) (m : Int) (X O : Nat -> Int) (n : Nat) : Prop where
  N : 100 < N
  m : m = n
  g : GridP n X O
  x : Byt X
  o : Byt O
structure FrA (N : Nat) (m : Int) (X O : Nat -> Int) : Prop where
  N : 100 < N
  x : Byt X
  o : Byt O
  g : gridB m X O = false
section grids
variable {z : β} {N n : Nat} {X O : Nat -> Int}
end grids
section bad
variable {z : β} {N : Nat} {m : Int} {X O : Nat -> Int}
end bad
end
end Go.AM
namespace Go.AM
section
variable {β : Type} {n : Nat} {X O : Nat -> Int}
def flipF (n : Nat) (X O : Nat -> Int) (i : Nat) (s : (Nat -> Int) × (Nat -> Int)) : (Nat -> Int) × (Nat -> Int) := (upd s.1 i ((n : Int) - 1 - X i), upd s.2 i ((n : Int) - 1 - O i))
def flipS (n : Nat) (X O : Nat -> Int) : (Nat -> Int) × (Nat -> Int) := iter (flipF n X O) n 0 (fun _ => 0, fun _ => 0)
theorem flipS_at (n : Nat) (X O : Nat -> Int) : (∀ j, (flipS n X O).1 j = if j < n then (n : Int) - 1 - X j else 0) ∧ ∀ j, (flipS n X O).2 j = if j < n then (n : Int) - 1 - O j else 0 := by
  have key : ∀ d, (∀ j, (iter (flipF n X O) d 0 (fun _ => 0, fun _ => 0)).1 j = if j < d then (n : Int) - 1 - X j else 0) ∧ ∀ j, (iter (flipF n X O) d 0 (fun _ => 0, fun _ => 0)).2 j = if j < d then (n : Int) - 1 - O j else 0 := by
    intro d
    induction d with
    | zero => exact ⟨fun j => rfl, fun j => rfl⟩
    | succ d ih =>
      rw [iter_succ, Nat.zero_add]
      refine ⟨fun j => ?_, fun j => ?_⟩
      · show upd _ d ((n : Int) - 1 - X d) j = _
        rw [upd_at, ih.1 j]
        by_cases e : j = d
        · subst e; rw [if_pos rfl, if_pos (by omega)]
        · rw [if_neg e]
          by_cases q : j < d
          · rw [if_pos q, if_pos (by omega)]
          · rw [if_neg q, if_neg (by omega)]
      · show upd _ d ((n : Int) - 1 - O d) j = _
        rw [upd_at, ih.2 j]
        by_cases e : j = d
        · subst e; rw [if_pos rfl, if_pos (by omega)]
        · rw [if_neg e]
          by_cases q : j < d
          · rw [if_pos q, if_pos (by omega)]
          · rw [if_neg q, if_neg (by omega)]
  exact key n
theorem flip_perm {Y Z : Nat -> Int} (h : PermP 8 n Y) (hY : ∀ j, 0 <= Y j) (hz : ∀ j, Z j = if j < n then (n : Int) - 1 - Y j else 0) : PermP 8 n Z ∧ ∀ j, 0 <= Z j := by
  refine ⟨⟨fun j h1 h2 => by rw [hz, if_neg (by omega)], fun j hj => by rw [hz, if_pos hj]; have := hY j; omega, fun i j hi hj e => ?_⟩, fun j => ?_⟩
  · rw [hz, hz, if_pos hi, if_pos hj] at e
    exact h.2.2 i j hi hj (by omega)
  · rw [hz]
    split
    · have := h.2.1 j (by assumption); omega
    · omega
theorem flip_grid (g : GridP n X O) (hX : ∀ j, 0 <= X j) (hO : ∀ j, 0 <= O j) : GridP n (flipS n X O).1 (flipS n X O).2 ∧ (∀ j, 0 <= (flipS n X O).1 j) ∧ ∀ j, 0 <= (flipS n X O).2 j := by
  obtain ⟨a1, a2⟩ := flipS_at n X O
  obtain ⟨b1, b2⟩ := flip_perm g.px hX a1
  obtain ⟨c1, c2⟩ := flip_perm g.po hO a2
  refine ⟨⟨g.lo, g.hi, b1, c1, fun i hi e => ?_⟩, b2, c2⟩
  rw [a1, a2, if_pos hi, if_pos hi] at e
  exact g.ne i hi (by omega)
theorem flip_row {Y Z : Nat -> Int} (h : PermP 8 n Y) (hY : ∀ j, 0 <= Y j) (hz : ∀ j, Z j = if j < n then (n : Int) - 1 - Y j else 0) {r : Nat} (hr : r < n) : rowOf n Z r = rowOf n Y (n - 1 - r) := by
  obtain ⟨b1, b2⟩ := flip_perm h hY hz
  obtain ⟨h1, h2⟩ := rowOf_spec h hY (show n - 1 - r < n by omega)
  exact rowOf_eq b1 b2 h1 (by rw [hz, if_pos h1, h2]; omega)
theorem crossV_flip (g : GridP n X O) (hX : ∀ j, 0 <= X j) (hO : ∀ j, 0 <= O j) {i r : Nat} (hi : i < n) (hr : r < n) : crossV n (flipS n X O).1 (flipS n X O).2 i r = -crossV n X O i (n - 1 - r) := by
  obtain ⟨a1, a2⟩ := flipS_at n X O
  have bx := g.bdX hX hi
  have bo := g.swap.bdX hO hi
  have e1 : Bet r ((flipS n X O).1 i) ((flipS n X O).2 i) ↔ Bet ((n - 1 - r : Nat) : Int) (X i) (O i) := by
    rw [a1, a2, if_pos hi, if_pos hi]
    unfold Bet
    omega
  unfold crossV
  rw [flip_row g.px hX a1 hr, flip_row g.po hO a2 hr]
  by_cases p : Bet ((n - 1 - r : Nat) : Int) (X i) (O i)
  · rw [(betB_iff _ _ _).2 (e1.2 p), (betB_iff _ _ _).2 p, c_true, c_true]
    cases betB i (rowOf n X (n - 1 - r)) (rowOf n O (n - 1 - r)) with
    | false => rfl
    | true =>
      rw [c_true, c_true, a1, a2, if_pos hi, if_pos hi]
      have ne := g.ne i hi
      by_cases q : X i < O i
      · rw [decide_eq_true q, decide_eq_false (show ¬ ((n : Int) - 1 - X i < (n : Int) - 1 - O i) by omega)]
        cases decide ((rowOf n X (n - 1 - r) : Int) < rowOf n O (n - 1 - r)) <;> rfl
      · rw [decide_eq_false q, decide_eq_true (show (n : Int) - 1 - X i < (n : Int) - 1 - O i by omega)]
        cases decide ((rowOf n X (n - 1 - r) : Int) < rowOf n O (n - 1 - r)) <;> rfl
  · rw [show betB r ((flipS n X O).1 i) ((flipS n X O).2 i) = false from by rw [<- Bool.not_eq_true, betB_iff]; exact fun h => p (e1.1 h), show betB ((n - 1 - r : Nat) : Int) (X i) (O i) = false from by rw [<- Bool.not_eq_true, betB_iff]; exact p]
    rfl
theorem writhe_flip (g : GridP n X O) (hX : ∀ j, 0 <= X j) (hO : ∀ j, 0 <= O j) : writheS (crossL n (flipS n X O).1 (flipS n X O).2) = -writheS (crossL n X O) := by
  rw [writhe_sum, writhe_sum, <- sumI_neg]
  refine sumI_congr fun i hi => ?_
  rw [<- sumI_neg]
  have := sumI_perm (n := n) (σ := fun r => n - 1 - r) (τ := fun r => n - 1 - r) (fun r => -crossV n X O i r) (fun r hr => ⟨by show n - 1 - r < n; omega, by show n - 1 - (n - 1 - r) = r; omega⟩) (fun r hr => ⟨by show n - 1 - r < n; omega, by show n - 1 - (n - 1 - r) = r; omega⟩)
  rw [<- this]
  exact sumI_congr fun r hr => crossV_flip g hX hO hi hr
theorem i_FlipOf_val (z : β) {N : Nat} (hN : 8 < N) (g : GridP n X O) (hX : ∀ j, 0 <= X j) (hO : ∀ j, 0 <= O j) (k0 : Int -> (Nat -> Int) -> (Nat -> Int) -> Int -> β) : q04q z N n X O k0 = k0 n (flipS n X O).1 (flipS n X O).2 0 := by
  have h8 := g.hi
  unfold q04q q04p q04o q04n q008
  rw [i_IsGrid_val z hN _ _ _ hX hO, gridB_iff.2 ⟨n, rfl, g⟩, Bool.not_true, c_false, c_false]
  exact up_to (L := fun m i s => q04m z N n n X O n X O 0 (fun _ => 0) (fun _ => 0) n m (i : Int) s.1 s.2 fun q10 q11 => k0 n q10 q11 0) (n := n) (out := fun s => k0 n s.1 s.2 0) (f := flipF n X O) (I := fun _ _ => True)
    (fun m i s hi _ => ⟨by
      have b1 := g.bdX hX hi
      have b2 := g.swap.bdX hO hi
      obtain ⟨a, ha⟩ : ∃ a : Nat, (n : Int) - 1 - X i = a := ⟨((n : Int) - 1 - X i).toNat, by omega⟩
      obtain ⟨b, hb⟩ : ∃ b : Nat, (n : Int) - 1 - O i = b := ⟨((n : Int) - 1 - O i).toNat, by omega⟩
      simp only [q04m, q04l, q04i, q008, c_and, Int.toNat_natCast, ha, hb, wrap8t (t := a) (by omega), wrap8t (t := b) (by omega)]
      simp (disch := omega) only [c_lt, c_le, c_blt, c_fits]
      unfold flipF
      rw [ha, hb]
      rfl, trivial⟩)
    (fun m s _ => by simp (disch := omega) only [q04m, q04l, c_nlt]) n N 0 (fun _ => 0, fun _ => 0) (by omega) (by omega) trivial
end
end Go.AM
namespace Go.AM
section
variable {β : Type}
def KrG (N : Nat) (m : Int) (X O : Nat -> Int) : Prop := ∃ n : Nat, m = n ∧ 200 < N ∧ GridP n X O ∧ Byt X ∧ Byt O
def KrB (N : Nat) (m : Int) (X O : Nat -> Int) : Prop := 200 < N ∧ gridB m X O = false ∧ Byt X ∧ Byt O
section vals
variable {z : β} {N n : Nat} {X O : Nat -> Int}
theorem kr_is (hN : 200 < N) (g : GridP n X O) (hX : Byt X) (hO : Byt O) (k : Bool -> β) : q00h z N n X O k = k true := by
  rw [i_IsGrid_val z (by omega) _ _ _ (fun j => (hX.b j).1) (fun j => (hO.b j).1), gridB_iff.2 ⟨n, rfl, g⟩]
theorem kr_isS (hN : 200 < N) (g : GridP n X O) (hX : Byt X) (hO : Byt O) (k : Bool -> β) : q007 z N n X O k = k true := by
  rw [s_l01Is_val z (by omega) _ _ _ (fun j => (hX.b j).1) (fun j => (hO.b j).1), gridB_iff.2 ⟨n, rfl, g⟩]
theorem kr_no {m : Int} (hN : 200 < N) (hb : gridB m X O = false) (hX : Byt X) (hO : Byt O) (k : Bool -> β) : q00h z N m X O k = k false := by
  rw [i_IsGrid_val z (by omega) _ _ _ (fun j => (hX.b j).1) (fun j => (hO.b j).1), hb]
theorem kr_noS {m : Int} (hN : 200 < N) (hb : gridB m X O = false) (hX : Byt X) (hO : Byt O) (k : Bool -> β) : q007 z N m X O k = k false := by
  rw [s_l01Is_val z (by omega) _ _ _ (fun j => (hX.b j).1) (fun j => (hO.b j).1), hb]
end vals
noncomputable def nb_i_CrossingsOf (z : β) (N : Nat) (g_0 : Int) (g_1 : Nat -> Int) (g_2 : Nat -> Int) (k0 : β) : β := cond (bP (KrB N g_0 g_1 g_2)) k0 z
theorem nb_i_CrossingsOf_mono {α : Type} {N : Nat} {g_0 : Int} {g_1 g_2 : Nat -> Int} {k0 : Int -> Option α} {k1 : Nat -> Nat -> Nat -> Int -> List Int -> Option α} {r : α} (h : nb_i_CrossingsOf none N g_0 g_1 g_2 (k0 1) = some r) : q04d none N g_0 g_1 g_2 k0 k1 = some r := by
  obtain ⟨⟨hN, hb, hX, hO⟩, hk⟩ := cond_some h
  unfold q04d q04c
  rw [kr_no hN hb hX hO]; exact hk
noncomputable def nb_s_CrossingsOf (z : β) (N : Nat) (g_0 : Int) (g_1 : Nat -> Int) (g_2 : Nat -> Int) (k0 : β) : β := cond (bP (KrB N g_0 g_1 g_2)) k0 z
theorem nb_s_CrossingsOf_mono {α : Type} {N : Nat} {g_0 : Int} {g_1 g_2 : Nat -> Int} {k0 : Int -> Option α} {k1 : Nat -> Nat -> Nat -> Int -> List Int -> Option α} {r : α} (h : nb_s_CrossingsOf none N g_0 g_1 g_2 (k0 1) = some r) : q04e none N g_0 g_1 g_2 k0 k1 = some r := by
  obtain ⟨⟨hN, hb, hX, hO⟩, hk⟩ := cond_some h
  unfold q04e
  rw [kr_noS hN hb hX hO]; exact hk
noncomputable def nb_i_WritheOf (z : β) (N : Nat) (g_0 : Int) (g_1 : Nat -> Int) (g_2 : Nat -> Int) (k0 : β) : β := cond (bP (KrB N g_0 g_1 g_2)) k0 z
theorem nb_i_WritheOf_mono {α : Type} {N : Nat} {g_0 : Int} {g_1 g_2 : Nat -> Int} {k0 : Int -> Int -> Option α} {r : α} (h : nb_i_WritheOf none N g_0 g_1 g_2 (k0 0 1) = some r) : q036 none N g_0 g_1 g_2 k0 = some r := by
  obtain ⟨⟨hN, hb, hX, hO⟩, hk⟩ := cond_some h
  unfold q036 q035
  rw [kr_no hN hb hX hO]; exact hk
noncomputable def nb_s_WritheOf (z : β) (N : Nat) (g_0 : Int) (g_1 : Nat -> Int) (g_2 : Nat -> Int) (k0 : β) : β := cond (bP (KrB N g_0 g_1 g_2)) k0 z
theorem nb_s_WritheOf_mono {α : Type} {N : Nat} {g_0 : Int} {g_1 g_2 : Nat -> Int} {k0 : Int -> Int -> Option α} {r : α} (h : nb_s_WritheOf none N g_0 g_1 g_2 (k0 0 1) = some r) : q04f none N g_0 g_1 g_2 k0 = some r := by
  obtain ⟨⟨hN, hb, hX, hO⟩, hk⟩ := cond_some h
  unfold q04f
  rw [kr_noS hN hb hX hO]; exact hk
noncomputable def nb_i_LinkingTable (z : β) (N : Nat) (g_0 : Int) (g_1 : Nat -> Int) (g_2 : Nat -> Int) (k0 : β) : β := cond (bP (KrB N g_0 g_1 g_2)) k0 z
theorem nb_i_LinkingTable_mono {α : Type} {N : Nat} {g_0 : Int} {g_1 g_2 : Nat -> Int} {k0 : Int -> Option α} {k1 : Nat -> Nat -> Nat -> Int -> List (Nat × Nat) -> List (List Int) -> Option α} {r : α} (h : nb_i_LinkingTable none N g_0 g_1 g_2 (k0 1) = some r) : q04h none N g_0 g_1 g_2 k0 k1 = some r := by
  obtain ⟨⟨hN, hb, hX, hO⟩, hk⟩ := cond_some h
  unfold q04h q04g
  rw [kr_no hN hb hX hO]; exact hk
noncomputable def nb_s_LinkingTable (z : β) (N : Nat) (g_0 : Int) (g_1 : Nat -> Int) (g_2 : Nat -> Int) (k0 : β) : β := cond (bP (KrB N g_0 g_1 g_2)) k0 z
theorem nb_s_LinkingTable_mono {α : Type} {N : Nat} {g_0 : Int} {g_1 g_2 : Nat -> Int} {k0 : Int -> Option α} {k1 : Nat -> Nat -> Nat -> Int -> List (Nat × Nat) -> List (List Int) -> Option α} {r : α} (h : nb_s_LinkingTable none N g_0 g_1 g_2 (k0 1) = some r) : q01u none N g_0 g_1 g_2 k0 k1 = some r := by
  obtain ⟨⟨hN, hb, hX, hO⟩, hk⟩ := cond_some h
  unfold q01u
  rw [kr_noS hN hb hX hO]; exact hk
noncomputable def nb_i_GaussCodes (z : β) (N : Nat) (g_0 : Int) (g_1 : Nat -> Int) (g_2 : Nat -> Int) (k0 : β) : β := cond (bP (KrB N g_0 g_1 g_2)) k0 z
theorem nb_i_GaussCodes_mono {α : Type} {N : Nat} {g_0 : Int} {g_1 g_2 : Nat -> Int} {k0 : Int -> Option α} {k1 : Nat -> Nat -> Nat -> Int -> List (Nat × Nat) -> List (List Int) -> Option α} {r : α} (h : nb_i_GaussCodes none N g_0 g_1 g_2 (k0 1) = some r) : q048 none N g_0 g_1 g_2 k0 k1 = some r := by
  obtain ⟨⟨hN, hb, hX, hO⟩, hk⟩ := cond_some h
  unfold q048 q047
  rw [kr_no hN hb hX hO]; exact hk
noncomputable def nb_s_GaussCodes (z : β) (N : Nat) (g_0 : Int) (g_1 : Nat -> Int) (g_2 : Nat -> Int) (k0 : β) : β := cond (bP (KrB N g_0 g_1 g_2)) k0 z
theorem nb_s_GaussCodes_mono {α : Type} {N : Nat} {g_0 : Int} {g_1 g_2 : Nat -> Int} {k0 : Int -> Option α} {k1 : Nat -> Nat -> Nat -> Int -> List (Nat × Nat) -> List (List Int) -> Option α} {r : α} (h : nb_s_GaussCodes none N g_0 g_1 g_2 (k0 1) = some r) : q052 none N g_0 g_1 g_2 k0 k1 = some r := by
  obtain ⟨⟨hN, hb, hX, hO⟩, hk⟩ := cond_some h
  unfold q052
  rw [kr_noS hN hb hX hO]; exact hk
noncomputable def xsL (m : Int) (X O : Nat -> Int) : List Int := crossL m.toNat X O
noncomputable def nh_i_CrossingsOf (z : β) (N : Nat) (g_0 : Int) (g_1 : Nat -> Int) (g_2 : Nat -> Int) (k0 : Nat -> Nat -> Nat -> List Int -> β) : β := cond (bP (KrG N g_0 g_1 g_2)) (k0 (xsL g_0 g_1 g_2).length ((xsL g_0 g_1 g_2).length / 3) ((xsL g_0 g_1 g_2).length / 3) (xsL g_0 g_1 g_2)) z
theorem nh_i_CrossingsOf_mono {α : Type} {N : Nat} {g_0 : Int} {g_1 g_2 : Nat -> Int} {k0 : Int -> Option α} {k1 : Nat -> Nat -> Nat -> Int -> List Int -> Option α} {r : α} (h : nh_i_CrossingsOf none N g_0 g_1 g_2 (fun a b c l => k1 a b c 0 l) = some r) : q04d none N g_0 g_1 g_2 k0 k1 = some r := by
  obtain ⟨⟨n, rfl, hN, g, hX, hO⟩, hk⟩ := cond_some h
  unfold q04d q04c
  rw [kr_is hN g hX hO, Bool.not_true, c_false, i_Grid_crossings_val none (by omega) g (fun j => (hX.b j).1) (fun j => (hO.b j).1)]; exact hk
noncomputable def nh_s_CrossingsOf (z : β) (N : Nat) (g_0 : Int) (g_1 : Nat -> Int) (g_2 : Nat -> Int) (k0 : Nat -> Nat -> Nat -> List Int -> β) : β := cond (bP (KrG N g_0 g_1 g_2)) (k0 (xsL g_0 g_1 g_2).length ((xsL g_0 g_1 g_2).length / 3) ((xsL g_0 g_1 g_2).length / 3) (xsL g_0 g_1 g_2)) z
theorem nh_s_CrossingsOf_mono {α : Type} {N : Nat} {g_0 : Int} {g_1 g_2 : Nat -> Int} {k0 : Int -> Option α} {k1 : Nat -> Nat -> Nat -> Int -> List Int -> Option α} {r : α} (h : nh_s_CrossingsOf none N g_0 g_1 g_2 (fun a b c l => k1 a b c 0 l) = some r) : q04e none N g_0 g_1 g_2 k0 k1 = some r := by
  obtain ⟨⟨n, rfl, hN, g, hX, hO⟩, hk⟩ := cond_some h
  unfold q04e
  rw [kr_isS hN g hX hO, Bool.not_true, c_false, s_l03Crossings_val none (by omega) g (fun j => (hX.b j).1) (fun j => (hO.b j).1)]; exact hk
noncomputable def nh_i_WritheOf (z : β) (N : Nat) (g_0 : Int) (g_1 : Nat -> Int) (g_2 : Nat -> Int) (k0 : Int -> β) : β := cond (bP (KrG N g_0 g_1 g_2)) (k0 (writheS (xsL g_0 g_1 g_2))) z
theorem nh_i_WritheOf_mono {α : Type} {N : Nat} {g_0 : Int} {g_1 g_2 : Nat -> Int} {k0 : Int -> Int -> Option α} {r : α} (h : nh_i_WritheOf none N g_0 g_1 g_2 (fun a => k0 a 0) = some r) : q036 none N g_0 g_1 g_2 k0 = some r := by
  obtain ⟨⟨n, rfl, hN, g, hX, hO⟩, hk⟩ := cond_some h
  unfold q036 q035
  rw [kr_is hN g hX hO, Bool.not_true, c_false, i_Grid_writhe_val none (by omega) g (fun j => (hX.b j).1) (fun j => (hO.b j).1)]; exact hk
noncomputable def nh_s_WritheOf (z : β) (N : Nat) (g_0 : Int) (g_1 : Nat -> Int) (g_2 : Nat -> Int) (k0 : Int -> β) : β := cond (bP (KrG N g_0 g_1 g_2)) (k0 (writheS (xsL g_0 g_1 g_2))) z
theorem nh_s_WritheOf_mono {α : Type} {N : Nat} {g_0 : Int} {g_1 g_2 : Nat -> Int} {k0 : Int -> Int -> Option α} {r : α} (h : nh_s_WritheOf none N g_0 g_1 g_2 (fun a => k0 a 0) = some r) : q04f none N g_0 g_1 g_2 k0 = some r := by
  obtain ⟨⟨n, rfl, hN, g, hX, hO⟩, hk⟩ := cond_some h
  unfold q04f
  rw [kr_isS hN g hX hO, Bool.not_true, c_false, s_l03Writhe_val none (by omega) g (fun j => (hX.b j).1) (fun j => (hO.b j).1)]; exact hk
noncomputable def nh_i_LinkingTable (z : β) (N : Nat) (g_0 : Int) (g_1 : Nat -> Int) (g_2 : Nat -> Int) (k0 : Nat -> Nat -> Nat -> List (Nat × Nat) -> List (List Int) -> β) : β := cond (bP (KrG N g_0 g_1 g_2)) (q023 z N g_0 g_1 g_2 k0) z
theorem nh_i_LinkingTable_mono {α : Type} {N : Nat} {g_0 : Int} {g_1 g_2 : Nat -> Int} {k0 : Int -> Option α} {k1 : Nat -> Nat -> Nat -> Int -> List (Nat × Nat) -> List (List Int) -> Option α} {r : α} (h : nh_i_LinkingTable none N g_0 g_1 g_2 (fun a b c p q => k1 a b c 0 p q) = some r) : q04h none N g_0 g_1 g_2 k0 k1 = some r := by
  obtain ⟨⟨n, rfl, hN, g, hX, hO⟩, hk⟩ := cond_some h
  unfold q04h q04g
  rw [kr_is hN g hX hO]; exact hk
noncomputable def nh_s_LinkingTable (z : β) (N : Nat) (g_0 : Int) (g_1 : Nat -> Int) (g_2 : Nat -> Int) (k0 : Nat -> Nat -> Nat -> List (Nat × Nat) -> List (List Int) -> β) : β := cond (bP (KrG N g_0 g_1 g_2)) (k0 (cmpC g_0.toNat g_1 g_2) (cmpC g_0.toNat g_1 g_2) (cmpC g_0.toNat g_1 g_2) (idsOf (lkT g_0.toNat g_1 g_2)) (lkT g_0.toNat g_1 g_2)) z
theorem nh_s_LinkingTable_mono {α : Type} {N : Nat} {g_0 : Int} {g_1 g_2 : Nat -> Int} {k0 : Int -> Option α} {k1 : Nat -> Nat -> Nat -> Int -> List (Nat × Nat) -> List (List Int) -> Option α} {r : α} (h : nh_s_LinkingTable none N g_0 g_1 g_2 (fun a b c p q => k1 a b c 0 p q) = some r) : q01u none N g_0 g_1 g_2 k0 k1 = some r := by
  obtain ⟨⟨n, rfl, hN, g, hX, hO⟩, hk⟩ := cond_some h
  rw [s_LinkingTable_valF none (by omega) g (fun j => (hX.b j).1) (fun j => (hO.b j).1)]; exact hk
noncomputable def nh_i_GaussCodes (z : β) (N : Nat) (g_0 : Int) (g_1 : Nat -> Int) (g_2 : Nat -> Int) (k0 : Nat -> Nat -> Nat -> List (Nat × Nat) -> List (List Int) -> β) : β := cond (bP (KrG N g_0 g_1 g_2)) (q046 z N g_0 g_1 g_2 k0) z
theorem nh_i_GaussCodes_mono {α : Type} {N : Nat} {g_0 : Int} {g_1 g_2 : Nat -> Int} {k0 : Int -> Option α} {k1 : Nat -> Nat -> Nat -> Int -> List (Nat × Nat) -> List (List Int) -> Option α} {r : α} (h : nh_i_GaussCodes none N g_0 g_1 g_2 (fun a b c p q => k1 a b c 0 p q) = some r) : q048 none N g_0 g_1 g_2 k0 k1 = some r := by
  obtain ⟨⟨n, rfl, hN, g, hX, hO⟩, hk⟩ := cond_some h
  unfold q048 q047
  rw [kr_is hN g hX hO]; exact hk
noncomputable def nh_s_GaussCodes (z : β) (N : Nat) (g_0 : Int) (g_1 : Nat -> Int) (g_2 : Nat -> Int) (k0 : Nat -> Nat -> Nat -> List (Nat × Nat) -> List (List Int) -> β) : β := cond (bP (KrG N g_0 g_1 g_2)) (k0 (gaussT g_0.toNat g_1 g_2).length (gaussT g_0.toNat g_1 g_2).length (gaussT g_0.toNat g_1 g_2).length (idsOf (gaussT g_0.toNat g_1 g_2)) (gaussT g_0.toNat g_1 g_2)) z
theorem nh_s_GaussCodes_mono {α : Type} {N : Nat} {g_0 : Int} {g_1 g_2 : Nat -> Int} {k0 : Int -> Option α} {k1 : Nat -> Nat -> Nat -> Int -> List (Nat × Nat) -> List (List Int) -> Option α} {r : α} (h : nh_s_GaussCodes none N g_0 g_1 g_2 (fun a b c p q => k1 a b c 0 p q) = some r) : q052 none N g_0 g_1 g_2 k0 k1 = some r := by
  obtain ⟨⟨n, rfl, hN, g, hX, hO⟩, hk⟩ := cond_some h
  rw [s_GaussCodes_val none hN g (fun j => (hX.b j).1) (fun j => (hO.b j).1)]; exact hk
noncomputable def nh_i_ExchangeOf (z : β) (N : Nat) (g_0 : Int) (g_1 : Nat -> Int) (g_2 : Nat -> Int) (k0 : Int -> (Nat -> Int) -> (Nat -> Int) -> β) : β := cond (bP (KrG N g_0 g_1 g_2)) (k0 g_0 g_2 g_1) z
theorem nh_i_ExchangeOf_mono {α : Type} {N : Nat} {g_0 : Int} {g_1 g_2 : Nat -> Int} {k0 : Int -> (Nat -> Int) -> (Nat -> Int) -> Int -> Option α} {r : α} (h : nh_i_ExchangeOf none N g_0 g_1 g_2 (fun a b c => k0 a b c 0) = some r) : q034 none N g_0 g_1 g_2 k0 = some r := by
  obtain ⟨⟨n, rfl, hN, g, hX, hO⟩, hk⟩ := cond_some h
  unfold q034 q033 q032
  rw [kr_is hN g hX hO, Bool.not_true, c_false]; exact hk
noncomputable def nh_i_FlipOf (z : β) (N : Nat) (g_0 : Int) (g_1 : Nat -> Int) (g_2 : Nat -> Int) (k0 : Int -> (Nat -> Int) -> (Nat -> Int) -> β) : β := cond (bP (KrG N g_0 g_1 g_2)) (k0 g_0 (flipS g_0.toNat g_1 g_2).1 (flipS g_0.toNat g_1 g_2).2) z
theorem nh_i_FlipOf_mono {α : Type} {N : Nat} {g_0 : Int} {g_1 g_2 : Nat -> Int} {k0 : Int -> (Nat -> Int) -> (Nat -> Int) -> Int -> Option α} {r : α} (h : nh_i_FlipOf none N g_0 g_1 g_2 (fun a b c => k0 a b c 0) = some r) : q04q none N g_0 g_1 g_2 k0 = some r := by
  obtain ⟨⟨n, rfl, hN, g, hX, hO⟩, hk⟩ := cond_some h
  rw [i_FlipOf_val none (by omega) g (fun j => (hX.b j).1) (fun j => (hO.b j).1)]; exact hk
end
end Go.AM
namespace Go.AM
section
variable {β : Type}
end
end Go.AM
namespace Go.AM
end Go.AM
namespace Go.AM
def Bnd (p : Int) (R W : Nat) (m : Mat) : Prop := ∀ i j, i < R -> j < W -> 0 <= m i j ∧ m i j < p
structure ElimI (p : Int) (R W : Nat) (s : Mat × Nat) : Prop where
  bd : Bnd p R W s.1
  rk : s.2 <= R
end Go.AM
namespace Go.AM
section
variable {β : Type}
end
end Go.AM
namespace Go.AM
section
variable {β : Type}
end
end Go.AM
namespace Go.AM
section
variable {β : Type}
end
end Go.AM
namespace Go.AM
section
variable {β : Type}
end
end Go.AM
namespace Go.AM
section
variable {β : Type}
end
end Go.AM
namespace Go.AM
section
variable {β : Type}
end
end Go.AM
namespace Go.AM
section
variable {β : Type}
end
end Go.AM
namespace Go.AM
structure Stairs (p : Int) (R : Nat) (c : Nat) (s : Mat × Nat) (pv : List Int) : Prop where
  len : pv.length = s.2
  zero : ∀ i, s.2 <= i -> i < R -> ∀ j, j < c -> s.1 i j = 0
  own : ∀ k, k < s.2 -> ∃ q : Nat, pv[k]? = some (q : Int) ∧ q < c ∧ s.1 k q ≠ 0 ∧ ∀ j, j < q -> s.1 k j = 0
  inj : ∀ (a b q : Nat), pv[a]? = some (q : Int) -> pv[b]? = some (q : Int) -> a = b
end Go.AM
namespace Go.AM
def tabM (m : Mat) (r W : Nat) : List (List Int) := (List.range r).map fun i => (List.range W).map (m i)
theorem tabM_len (m : Mat) (r W : Nat) : (tabM m r W).length = r := by simp [tabM]
theorem tabM_row (m : Mat) {r W i : Nat} (hi : i < r) : rowAt (tabM m r W) i = (List.range W).map (m i) := by
  unfold rowAt tabM
  simp [hi]
theorem row_ext {xs : List Int} {W : Nat} {f : Nat -> Int} (hl : xs.length = W) (h : ∀ j, j < W -> xs[j]?.getD 0 = f j) : xs = (List.range W).map f := by
  apply List.ext_getElem
  · simp [hl]
  · intro j h1 h2
    have := h j (by omega)
    rw [List.getElem?_eq_getElem h1] at this
    simp only [Option.getD_some] at this
    rw [this]
    simp
theorem TabF.toP {ids : List (Nat × Nat)} {pool : List (List Int)} {R W : Nat} {m : Mat} (h : TabF ids pool R W m) {r : Nat} (hr : r <= R) : TabP ids pool (tabM m r W) := by
  have hl := h.len
  refine ⟨by rw [tabM_len]; omega, fun i hi => ?_, fun i hi => ?_, fun i hi => ?_, fun i j hi hj e => ?_⟩
  · rw [tabM_len] at hi; exact h.lt i (by omega)
  · rw [tabM_len] at hi; rw [tabM_row m hi, h.sz i (by omega)]; simp
  · rw [tabM_len] at hi; rw [tabM_row m hi]; exact row_ext (h.wide i (by omega)) fun j hj => h.cell i j (by omega) hj
  · rw [tabM_len] at hi hj; exact h.inj i j (by omega) (by omega) e
end Go.AM
namespace Go.AM
end Go.AM
namespace Go.AM
end Go.AM
namespace Go.AM
section
variable {β : Type}
theorem likeRow (z : β) {N a b c d : Nat} {h0 h1 : List (List Int)} {xs : List Int} (hN : xs.length < N) (hl : xs.length <= 1000) (ha : rowAt h0 a = xs) (hb : rowAt h1 b = xs) (k : Bool -> β) :
    q031 z N a 0 xs.length xs.length c b 0 xs.length xs.length d h0 h1 k = k true := by
  unfold rowAt at ha hb
  unfold q031
  rw [c_ble (by omega), c_ble (by omega), c_nne rfl]
  exact (up_to_all (L := fun m i => q030 z a 0 xs.length xs.length c b 0 xs.length xs.length d h0 h1 m (i : Int) (k false) (k true)) (n := xs.length) (kt := k true) (kf := k false) (p := fun _ => true)
    (fun m i hi => by
      rw [q030, q02z]
      simp only [c_and, Int.toNat_natCast, addO_eq, Nat.zero_add, ha, hb]
      simp (disch := omega) only [c_lt, c_le, c_blt, c_ble, c_beq, c_fits, c_nne]
      rfl)
    (fun m => by
      rw [q030, q02z]
      simp (disch := omega) only [c_ble, c_nlt]) xs.length N 0 (by omega) hN).trans (by rw [(allFrom_iff xs.length 0).2 fun _ _ _ => rfl]; rfl)
theorem rows5_nil (z : β) {N : Nat} (hN : 0 < N) (k : Bool -> β) : q02y z N k = k true := by
  obtain ⟨N, rfl⟩ : ∃ M, N = M + 1 := ⟨N - 1, by omega⟩
  rfl
end
end Go.AM
namespace Go.AM
section
variable {β : Type}
theorem rows5_go (z : β) {N a la c a' la' c' : Nat} {ids ids' : List (Nat × Nat)} {P P' T : List (List Int)} (h : TabP ids P T) (h' : TabP ids' P' T) (s : SmallT N T) (ea : a = ids.length) (el : la = T.length) (ea' : a' = ids'.length) (el' : la' = T.length) (k : Bool -> β) :
    q058 z N a la c a' la' c' ids ids' P P' k = k true := by
  subst ea el ea' el'
  have := s.rows
  have := h.len
  have := h'.len
  unfold q058
  rw [c_ble (by omega), c_ble (by omega), c_nne rfl]
  exact (up_to_all (L := fun m i => q057 z N ids.length T.length c ids'.length T.length c' ids ids' P P' m (i : Int) (k false) (k true)) (n := T.length) (kt := k true) (kf := k false) (p := fun _ => true)
    (fun m i hi => by
      have e1 := h.sz i hi
      have e2 := h'.sz i hi
      have e3 := s.cols i hi
      have e4 := h.row i hi
      have e5 := h'.row i hi
      unfold idAt at e1 e2 e4 e5
      rw [q057, q056]
      simp only [c_and, Int.toNat_natCast]
      simp (disch := omega) only [c_lt, c_le, c_blt, c_ble, c_beq, e1, e2]
      rw [likeRow z e3.1 e3.2 e4 e5]
      simp (disch := omega) only [Bool.not_true, cond_false, c_fits]
      rfl)
    (fun m => by
      rw [q057, q056]
      simp (disch := omega) only [c_ble, c_nlt]) T.length N 0 (by omega) (by omega)).trans (by rw [(allFrom_iff T.length 0).2 fun _ _ _ => rfl]; rfl)
theorem cr_l0 (z : β) {N : Nat} {xs : List Int} (hl : xs.length = 3 * (xs.length / 3)) (h64 : xs.length / 3 <= 64) (hN : 100 < N) (t8 : Int) (a b c d e f : Nat) (h0_n : Nat) (h0 : Nat -> Int) (h1_0 : Int) (h1_1 h1_2 : Nat -> Int) (h4 : List (Nat × Nat)) (h5 : List (List Int)) (h6 : List (Nat × Nat)) (h7 : List (List Int)) (h8 : List (Nat × Nat)) (h9 : List (List Int)) (h10 : List (Nat × Nat)) (h11 : List (List Int)) (k0 k1 : β) :
    q05a z xs.length (xs.length / 3) (xs.length / 3) xs.length (xs.length / 3) (xs.length / 3) t8 a b c d e f h0_n h0 h1_0 h1_1 h1_2 xs xs h4 h5 h6 h7 h8 h9 h10 h11 N 0 k0 k1 = k1 :=
  up_to (L := fun m j (_ : Unit) => q05a z xs.length (xs.length / 3) (xs.length / 3) xs.length (xs.length / 3) (xs.length / 3) t8 a b c d e f h0_n h0 h1_0 h1_1 h1_2 xs xs h4 h5 h6 h7 h8 h9 h10 h11 m (j : Int) k0 k1) (n := xs.length / 3) (out := fun _ => k1) (f := fun _ s => s) (I := fun _ _ => True)
    (fun m j s hj _ => ⟨by
      simp only [q05a, q059, c_and, Int.toNat_natCast, beq_self_eq_true, Bool.and_true, Bool.not_true, c_false]
      simp (disch := omega) only [c_lt, c_le, c_ble, c_beq, c_fits]
      rfl, trivial⟩)
    (fun m s _ => by simp (disch := omega) only [q05a, q059, c_ble, c_nlt]) (xs.length / 3) N 0 () (by omega) (by omega) trivial
theorem sumI_bd {f : Nat -> Int} {b : Int} : ∀ {d : Nat}, (∀ i, i < d -> -b <= f i ∧ f i <= b) -> -(b * d) <= sumI f d ∧ sumI f d <= b * d := by
  intro d
  induction d with
  | zero => exact fun _ => by simp [sumI]
  | succ d ih =>
    intro h
    have h1 := ih fun i hi => h i (by omega)
    have h2 := h d (by omega)
    rw [sumI, Int.natCast_succ, Int.mul_add, Int.mul_one]
    omega
theorem cr_l2 (z : β) {N cnt a : Nat} (hN : 100 < N) (h8c : cnt <= 8) (ha : a < cnt) {ids : List (Nat × Nat)} {pool : List (List Int)} {M : Mat} (t : TabF ids pool cnt cnt M) (hl : ids.length = cnt) (hM : ∀ i j, i < cnt -> j < cnt -> -128 <= M i j ∧ M i j <= 128) (hs : ∀ i j, i < cnt -> j < cnt -> M i j = M j i) {s0 : Int} (hs0 : -8192 <= s0 ∧ s0 <= 8192)
    (x y v : Nat) (t8 : Int) (d e f : Nat) (h0_n : Nat) (h0 : Nat -> Int) (h1_0 : Int) (h1_1 h1_2 : Nat -> Int) (h2 h3 : List Int) (h6 : List (Nat × Nat)) (h7 : List (List Int)) (h8 : List (Nat × Nat)) (h9 : List (List Int)) (h10 : List (Nat × Nat)) (h11 : List (List Int)) (k0 : β) (k1 : Int -> β) :
    q05c z x y v t8 cnt cnt cnt d e f (a : Int) h0_n h0 h1_0 h1_1 h1_2 h2 h3 ids pool h6 h7 h8 h9 h10 h11 N s0 0 k0 k1 = k1 (s0 + sumI (fun b => M a b) cnt) := by
  have main := up_to (L := fun m b (s : Int) => q05c z x y v t8 cnt cnt cnt d e f (a : Int) h0_n h0 h1_0 h1_1 h1_2 h2 h3 ids pool h6 h7 h8 h9 h10 h11 m s (b : Int) k0 k1) (n := cnt) (out := k1) (f := fun b s => s + M a b) (I := fun b s => s = s0 + sumI (fun b => M a b) b)
    (fun m b s hb hsv => ⟨by
      have bd := sumI_bd (f := fun b => M a b) (b := 128) (d := b) fun i hi => hM a i ha (by omega)
      have mab := hM a b ha hb
      have sa := t.sz a ha
      have sb := t.sz b hb
      have wa := t.wide a ha
      have wb := t.wide b hb
      have ca := t.cell a b ha hb
      have cb := t.cell b a hb ha
      rw [<- hs a b ha hb] at cb
      unfold idAt at sa sb wa wb ca cb
      unfold rowAt at wa wb ca cb
      simp only [q05c, q05b, c_and, Int.toNat_natCast, sa, sb, wa, wb, ca, cb, hl]
      simp (disch := omega) only [c_lt, c_le, c_ble, c_blt, c_beq, c_fits, c_nne]
      rfl, by
      show s + M a b = s0 + sumI (fun b => M a b) (b + 1)
      rw [hsv, sumI]; omega⟩)
    (fun m s _ => by simp (disch := omega) only [q05c, q05b, c_ble, c_nlt]) cnt N 0 s0 (by omega) (by omega) (by simp [sumI])
  have inv := iter_inv (f := fun b s => s + M a b) (n := cnt) (I := fun b s => s = s0 + sumI (fun b => M a b) b) (fun b s hb hsv => by
      show s + M a b = s0 + sumI (fun b => M a b) (b + 1)
      rw [hsv, sumI]; omega) cnt 0 s0 (by omega) (by simp [sumI])
  rw [Nat.zero_add] at inv
  rw [inv] at main
  exact main
theorem cr_l1 (z : β) {N cnt : Nat} (hN : 100 < N) (h8c : cnt <= 8) {ids : List (Nat × Nat)} {pool : List (List Int)} {M : Mat} (t : TabF ids pool cnt cnt M) (hl : ids.length = cnt) (hM : ∀ i j, i < cnt -> j < cnt -> -128 <= M i j ∧ M i j <= 128) (hs : ∀ i j, i < cnt -> j < cnt -> M i j = M j i)
    (x y v : Nat) (t8 : Int) (d e f : Nat) (h0_n : Nat) (h0 : Nat -> Int) (h1_0 : Int) (h1_1 h1_2 : Nat -> Int) (h2 h3 : List Int) (h6 : List (Nat × Nat)) (h7 : List (List Int)) (h8 : List (Nat × Nat)) (h9 : List (List Int)) (h10 : List (Nat × Nat)) (h11 : List (List Int)) (k0 : β) (k1 : Int -> β) :
    q05e z N x y v t8 cnt cnt cnt d e f h0_n h0 h1_0 h1_1 h1_2 h2 h3 ids pool h6 h7 h8 h9 h10 h11 N 0 0 k0 k1 = k1 (sumI (fun a => sumI (fun b => M a b) cnt) cnt) := by
  have rb : ∀ a, a < cnt -> -1024 <= sumI (fun b => M a b) cnt ∧ sumI (fun b => M a b) cnt <= 1024 := fun a ha => by
    have := sumI_bd (f := fun b => M a b) (b := 128) (d := cnt) fun i hi => hM a i ha hi
    omega
  have main := up_to (L := fun m a (s : Int) => q05e z N x y v t8 cnt cnt cnt d e f h0_n h0 h1_0 h1_1 h1_2 h2 h3 ids pool h6 h7 h8 h9 h10 h11 m s (a : Int) k0 k1) (n := cnt) (out := k1) (f := fun a s => s + sumI (fun b => M a b) cnt) (I := fun a s => s = sumI (fun a => sumI (fun b => M a b) cnt) a)
    (fun m a s ha hsv => ⟨by
      have bd := sumI_bd (f := fun a => sumI (fun b => M a b) cnt) (b := 1024) (d := a) fun i hi => rb i (by omega)
      rw [q05e, q05d, c_ble (by omega), c_lt (by omega), cr_l2 z hN h8c ha t hl hM hs (by omega), c_fits (by omega)]
      rfl, by
      show s + sumI (fun b => M a b) cnt = sumI (fun a => sumI (fun b => M a b) cnt) (a + 1)
      rw [hsv]; rfl⟩)
    (fun m s _ => by simp (disch := omega) only [q05e, q05d, c_ble, c_nlt]) cnt N 0 0 (by omega) (by omega) rfl
  have inv := iter_inv (f := fun a s => s + sumI (fun b => M a b) cnt) (n := cnt) (I := fun a s => s = sumI (fun a => sumI (fun b => M a b) cnt) a) (fun a s ha hsv => by
      show s + sumI (fun b => M a b) cnt = sumI (fun a => sumI (fun b => M a b) cnt) (a + 1)
      rw [hsv]; rfl) cnt 0 0 (by omega) rfl
  rw [Nat.zero_add] at inv
  rw [inv] at main
  exact main
def stepC (s : (Nat -> Int) × (Nat -> Int)) (x : Int) : (Nat -> Int) × (Nat -> Int) := if 0 < x then (upd s.1 x.toNat (s.1 x.toNat + 1), s.2) else (s.1, upd s.2 (-x).toNat (s.2 (-x).toNat + 1))
theorem stepC_bd {s : (Nat -> Int) × (Nat -> Int)} {B : Int} (h : ∀ v, (0 <= s.1 v ∧ s.1 v <= B) ∧ 0 <= s.2 v ∧ s.2 v <= B) (x : Int) : ∀ v, (0 <= (stepC s x).1 v ∧ (stepC s x).1 v <= B + 1) ∧ 0 <= (stepC s x).2 v ∧ (stepC s x).2 v <= B + 1 := by
  intro v
  have hv := h v
  unfold stepC
  by_cases e : 0 < x
  · rw [if_pos e]
    have hx := h x.toNat
    show (0 <= upd s.1 x.toNat (s.1 x.toNat + 1) v ∧ _) ∧ _
    refine ⟨?_, (show 0 <= s.2 v by omega), (show s.2 v <= B + 1 by omega)⟩
    show 0 <= upd s.1 x.toNat (s.1 x.toNat + 1) v ∧ upd s.1 x.toNat (s.1 x.toNat + 1) v <= B + 1
    rw [upd_at]
    split <;> omega
  · rw [if_neg e]
    have hx := h (-x).toNat
    refine ⟨⟨(show 0 <= s.1 v by omega), (show s.1 v <= B + 1 by omega)⟩, ?_⟩
    show 0 <= upd s.2 (-x).toNat (s.2 (-x).toNat + 1) v ∧ upd s.2 (-x).toNat (s.2 (-x).toNat + 1) v <= B + 1
    rw [upd_at]
    split <;> omega
theorem fold_count (l : List Int) (h : ∀ x ∈ l, x ≠ 0) : ∀ (s : (Nat -> Int) × (Nat -> Int)) (v : Nat), 1 <= v -> (l.foldl stepC s).1 v = s.1 v + (l.count (v : Int) : Nat) ∧ (l.foldl stepC s).2 v = s.2 v + (l.count (-(v : Int)) : Nat) := by
  induction l with
  | nil => intro s v _; simp
  | cons x l ih =>
    intro s v hv
    have hx := h x (List.mem_cons_self ..)
    obtain ⟨i1, i2⟩ := ih (fun y hy => h y (List.mem_cons_of_mem _ hy)) (stepC s x) v hv
    rw [List.foldl_cons, i1, i2, List.count_cons, List.count_cons]
    unfold stepC
    by_cases e : 0 < x
    · rw [if_pos e]
      have n2 : ¬ (x == -(v : Int)) = true := by simp; omega
      rw [if_neg n2]
      refine ⟨?_, rfl⟩
      show upd s.1 x.toNat (s.1 x.toNat + 1) v + _ = _
      rw [upd_at]
      by_cases q : v = x.toNat
      · have q1 : (x == (v : Int)) = true := by simp; omega
        rw [if_pos q, if_pos q1, <- q]
        omega
      · have q1 : ¬ (x == (v : Int)) = true := by simp; omega
        rw [if_neg q, if_neg q1]; rfl
    · rw [if_neg e]
      have n2 : ¬ (x == (v : Int)) = true := by simp; omega
      rw [if_neg n2]
      refine ⟨rfl, ?_⟩
      show upd s.2 (-x).toNat (s.2 (-x).toNat + 1) v + _ = _
      rw [upd_at]
      by_cases q : v = (-x).toNat
      · have q1 : (x == -(v : Int)) = true := by simp; omega
        rw [if_pos q, if_pos q1, <- q]
        omega
      · have q1 : ¬ (x == -(v : Int)) = true := by simp; omega
        rw [if_neg q, if_neg q1]; rfl
theorem cr_l4 (z : β) {N L a : Nat} (hN : 1100 < N) (hL : L <= 64) {ids : List (Nat × Nat)} {P T : List (List Int)} (t : TabP ids P T) (hl : ids.length = T.length) (ha : a < T.length) (hT : T.length <= 8) (hlen : (rowAt T a).length <= 1000) (hx : ∀ x ∈ rowAt T a, x ≠ 0 ∧ -(L : Int) <= x ∧ x <= L)
    {s0 : (Nat -> Int) × (Nat -> Int)} {B : Int} (hB : 0 <= B ∧ B <= 100000) (hs0 : ∀ v, (0 <= s0.1 v ∧ s0.1 v <= B) ∧ 0 <= s0.2 v ∧ s0.2 v <= B)
    (x y : Nat) (t8 t21 : Int) (h0_n : Nat) (h0 : Nat -> Int) (h1_0 : Int) (h1_1 h1_2 : Nat -> Int) (h2 h3 : List Int) (h4 : List (Nat × Nat)) (h5 : List (List Int)) (h6 : List (Nat × Nat)) (h7 : List (List Int)) (h10 : List (Nat × Nat)) (h11 : List (List Int)) (k0 k1 : (Nat -> Int) -> (Nat -> Int) -> β) :
    q05g z x L y t8 T.length T.length T.length t21 (L + 1) (L + 1) (L + 1) (L + 1) (L + 1) (L + 1) (a : Int) h0_n h0 h1_0 h1_1 h1_2 h2 h3 h4 h5 h6 h7 ids P h10 h11 (L + 1) (L + 1) N 0 s0.1 s0.2 k0 k1 = k1 ((rowAt T a).foldl stepC s0).1 ((rowAt T a).foldl stepC s0).2 ∧
    ∀ v, (0 <= ((rowAt T a).foldl stepC s0).1 v ∧ ((rowAt T a).foldl stepC s0).1 v <= B + 1000) ∧ 0 <= ((rowAt T a).foldl stepC s0).2 v ∧ ((rowAt T a).foldl stepC s0).2 v <= B + 1000 := by
  have e1 := t.sz a ha
  have e4 := t.row a ha
  unfold idAt at e1 e4
  have e4' : P[(ids[a]?.getD (0, 0)).1]?.getD [] = rowAt T a := e4
  generalize hw : rowAt T a = w at *
  have step : ∀ (b : Nat) (s : (Nat -> Int) × (Nat -> Int)), b < w.length -> (∀ v, (0 <= s.1 v ∧ s.1 v <= B + b) ∧ 0 <= s.2 v ∧ s.2 v <= B + b) -> ∀ v, (0 <= (stepC s (w[b]?.getD 0)).1 v ∧ (stepC s (w[b]?.getD 0)).1 v <= B + (b + 1 : Nat)) ∧ 0 <= (stepC s (w[b]?.getD 0)).2 v ∧ (stepC s (w[b]?.getD 0)).2 v <= B + (b + 1 : Nat) := fun b s _ hs v => by
    have := stepC_bd hs (w[b]?.getD 0) v
    omega
  have main := up_to (L := fun m b (s : (Nat -> Int) × (Nat -> Int)) => q05g z x L y t8 T.length T.length T.length t21 (L + 1) (L + 1) (L + 1) (L + 1) (L + 1) (L + 1) (a : Int) h0_n h0 h1_0 h1_1 h1_2 h2 h3 h4 h5 h6 h7 ids P h10 h11 (L + 1) (L + 1) m (b : Int) s.1 s.2 k0 k1) (n := w.length) (out := fun s => k1 s.1 s.2) (f := fun b s => stepC s (w[b]?.getD 0))
    (I := fun b s => ∀ v, (0 <= s.1 v ∧ s.1 v <= B + b) ∧ 0 <= s.2 v ∧ s.2 v <= B + b)
    (fun m b s hb hs => ⟨by
      have hm : w[b]?.getD 0 ∈ w := by rw [List.getElem?_eq_getElem hb]; exact List.getElem_mem hb
      obtain ⟨x0, x1, x2⟩ := hx _ hm
      have hmax : ((L : Int) < bif decide (w[b]?.getD 0 < -w[b]?.getD 0) then -w[b]?.getD 0 else w[b]?.getD 0) -> False := by
        cases decide (w[b]?.getD 0 < -w[b]?.getD 0) <;> simp <;> omega
      generalize hq : w[b]?.getD 0 = q at *
      have nm : ∀ u v : β, cond (decide ((L : Int) < bif decide (q < -q) then -q else q)) u v = v := fun u v => by rw [decide_eq_false (fun h => hmax h)]; rfl
      have b1 := (hs q.toNat).1
      have b2 := (hs (-q).toNat).2
      simp only [q05g, q05f, c_and, Int.toNat_natCast, e1, e4', hl, hq, nm]
      by_cases e : 0 < q
      · simp (disch := omega) only [c_lt, c_le, c_blt, c_ble, c_beq, c_fits, c_neq]
        unfold stepC
        rw [if_pos e]
        rfl
      · simp (disch := omega) only [c_lt, c_nlt, c_le, c_blt, c_ble, c_beq, c_fits, c_neq]
        unfold stepC
        rw [if_neg e]
        rfl, step b s hb hs⟩)
    (fun m s _ => by simp (disch := omega) only [q05g, q05f, c_and, Int.toNat_natCast, c_beq, c_le, c_lt, c_blt, c_ble, e1, c_nlt]) w.length N 0 s0 (by omega) (by omega) (fun v => by have := hs0 v; omega)
  have inv := iter_inv (f := fun b s => stepC s (w[b]?.getD 0)) (n := w.length) (I := fun b s => ∀ v, (0 <= s.1 v ∧ s.1 v <= B + b) ∧ 0 <= s.2 v ∧ s.2 v <= B + b) step w.length 0 s0 (by omega) (fun v => by have := hs0 v; omega)
  rw [iter_foldl] at main inv
  exact ⟨main, fun v => by have := inv v; omega⟩
end
end Go.AM
set_option maxRecDepth 100000
namespace Go.AM
noncomputable def nb_w_FnCrossings {β : Type} (z : β) (N : Nat) (code_n : Nat) (code_l : Nat) (code_c : Nat) (h0_n : Nat) (h0 : Nat -> Int) (k0 : Bool -> β) : β :=
  w_big z N code_n code_l code_c h0_n h0 (fun q8 => cond (q8) (k0 true) (q053 z N code_n code_l code_c h0_n h0 (fun q9 q10 q11 => nb_i_CrossingsOf z N q9 q10 q11 (nb_s_CrossingsOf z N q9 q10 q11 (nb_i_WritheOf z N q9 q10 q11 (nb_s_WritheOf z N q9 q10 q11 (nb_i_LinkingTable z N q9 q10 q11 (nb_s_LinkingTable z N q9 q10 q11 (nb_i_GaussCodes z N q9 q10 q11 (nb_s_GaussCodes z N q9 q10 q11 (q02y z N (fun q12 => cond (!q12) (k0 false) (q02y z N (fun q13 => cond (!q13) (k0 false) (q055 z 0 h0_n h0 q9 q10 q11 N (k0 true))))))))))))))))
end Go.AM
set_option maxRecDepth 100000
namespace Go.AM
noncomputable def nh_w_FnCrossings {β : Type} (z : β) (N : Nat) (code_n : Nat) (code_l : Nat) (code_c : Nat) (h0_n : Nat) (h0 : Nat -> Int) (k0 : Bool -> β) : β :=
  w_big z N code_n code_l code_c h0_n h0 (fun q8 => cond (q8) (k0 true) (q053 z N code_n code_l code_c h0_n h0 (fun q9 q10 q11 => nh_i_CrossingsOf z N q9 q10 q11 (fun q12 q13 q14 q15 => nh_s_CrossingsOf z N q9 q10 q11 (fun q16 q17 q18 q19 => nh_i_WritheOf z N q9 q10 q11 (fun q20 => nh_s_WritheOf z N q9 q10 q11 (fun q21 => nh_i_LinkingTable z N q9 q10 q11 (fun q22 q23 q24 q25 q26 => nh_s_LinkingTable z N q9 q10 q11 (fun q27 q28 q29 q30 q31 => nh_i_GaussCodes z N q9 q10 q11 (fun q32 q33 q34 q35 q36 => nh_s_GaussCodes z N q9 q10 q11 (fun q37 q38 q39 q40 q41 => cond (q13.ble 9223372036854775807) (cond (q17.ble 9223372036854775807) (cond ((↑q13 : Int) != (↑q17 : Int)) (k0 false) (cond (q20 != q21) (k0 false) (q058 z N q22 q23 q24 q27 q28 q29 q25 q30 q26 q31 (fun q42 => cond (!q42) (k0 false) (q058 z N q32 q33 q34 q37 q38 q39 q35 q40 q36 q41 (fun q43 => cond (!q43) (k0 false) (q05a z q12 q13 q14 q16 q17 q18 q20 q22 q23 q24 q32 q33 q34 h0_n h0 q9 q10 q11 q15 q19 q25 q26 q30 q31 q35 q36 q40 q41 N 0 (k0 false) (q05e z N q12 q13 q14 q20 q22 q23 q24 q32 q33 q34 h0_n h0 q9 q10 q11 q15 q19 q25 q26 q30 q31 q35 q36 q40 q41 N 0 0 (k0 false) (fun q44 => cond (q13.ble 9223372036854775807) (cond (fits .i64 ((↑q13 : Int) + 1)) (cond (decide ((↑q13 : Int) + 1 <= (↑q13 : Int) + 1) && decide ((↑q13 : Int) + 1 <= 1073741824) && true && true) (cond (q13.ble 9223372036854775807) (cond (fits .i64 ((↑q13 : Int) + 1)) (cond (decide ((↑q13 : Int) + 1 <= (↑q13 : Int) + 1) && decide ((↑q13 : Int) + 1 <= 1073741824) && true && true) (q05i z N q12 q13 q14 q20 q32 q33 q34 q44 (((↑q13 : Int) + 1).toNat) (((↑q13 : Int) + 1).toNat) (((↑q13 : Int) + 1).toNat) (((↑q13 : Int) + 1).toNat) (((↑q13 : Int) + 1).toNat) (((↑q13 : Int) + 1).toNat) h0_n h0 q9 q10 q11 q15 q19 q25 q26 q30 q31 q35 q36 q40 q41 (((↑q13 : Int) + 1).toNat) (((↑q13 : Int) + 1).toNat) N 0 (fun (x : Nat) => 0) (fun (x : Nat) => 0) (fun q45 q46 => k0 false) (fun q45 q46 => q05k z q12 q13 q14 q20 q44 (((↑q13 : Int) + 1).toNat) (((↑q13 : Int) + 1).toNat) (((↑q13 : Int) + 1).toNat) (((↑q13 : Int) + 1).toNat) (((↑q13 : Int) + 1).toNat) (((↑q13 : Int) + 1).toNat) h0_n h0 q9 q10 q11 q15 q19 q25 q26 q30 q31 q35 q36 q40 q41 (((↑q13 : Int) + 1).toNat) q45 (((↑q13 : Int) + 1).toNat) q46 N 1 (k0 false) (nh_i_ExchangeOf z N q9 q10 q11 (fun q47 q48 q49 => nh_i_WritheOf z N q47 q48 q49 (fun q50 => nh_i_FlipOf z N q9 q10 q11 (fun q51 q52 q53 => nh_i_WritheOf z N q51 q52 q53 (fun q54 => cond (q44 != q20) (k0 false) (cond (q50 != q20) (k0 false) (cond (fits .i64 (-q20)) (cond (q54 != -q20) (k0 false) (k0 true)) (z)))))))))) (z)) (z)) (z)) (z)) (z)) (z)))))))))) (z)) (z))))))))))))
end Go.AM
namespace Go.AM
section
variable {β : Type}
theorem spoil1_val (z : β) {N : Nat} (hN : 100 < N) {hn n' l : Nat} {h : Nat -> Int} (S : Src hn h n' l) (c : Nat) {a : Int} (ha : 0 <= a) (b : Int) :
    ∃ (m : Int) (X O : Nat -> Int) (a' b' : Int), (-1 <= m ∧ m <= 9) ∧ Byt X ∧ Byt O ∧ 0 <= a' ∧ ∀ k, q02t z N hn h n' l c a b k = k m X O a' b' := by
  obtain ⟨n, X, O, a1, b1, h2, h8, hX, hO, ha1, e1⟩ := draw_val z hN S c ha b
  obtain ⟨m, Y, P, a', b', g1, g2, g3, g4, g5⟩ := broken_val z N S c h8 (hX.byt h8) (hO.byt h8) ha1 b1
  refine ⟨m, Y, P, a', b', g1, g2, g3, g4, fun k => ?_⟩
  unfold q02t
  rw [e1, g5]
end
end Go.AM
namespace Go.AM
section
variable {β : Type}
theorem byt_ofC {n : Nat} {X : Nat -> Int} (h8 : n <= 8) (p : PermP 8 n X) (h0 : ∀ j, 0 <= X j) (z : ∀ j, n <= j -> X j = 0) : Byt X := by
  refine ⟨fun j => ⟨h0 j, ?_⟩, fun j hj => z j (by omega)⟩
  rcases Nat.lt_or_ge j n with h | h
  · have := p.2.1 j h; omega
  · rw [z j h]; omega
def rowsC (T : List (List Int)) (s : (Nat -> Int) × (Nat -> Int)) : (Nat -> Int) × (Nat -> Int) := T.foldl (fun s w => w.foldl stepC s) s
theorem rowsC_count {T : List (List Int)} (h : ∀ a, a < T.length -> ∀ x ∈ rowAt T a, x ≠ 0) (s : (Nat -> Int) × (Nat -> Int)) {v : Nat} (hv : 1 <= v) :
    (rowsC T s).1 v = s.1 v + (sumF (fun q => (T[q]?.getD []).count (v : Int)) T.length : Nat) ∧ (rowsC T s).2 v = s.2 v + (sumF (fun q => (T[q]?.getD []).count (-(v : Int))) T.length : Nat) := by
  have key : ∀ d, d <= T.length -> (iter (fun q s => (T[q]?.getD []).foldl stepC s) d 0 s).1 v = s.1 v + (sumF (fun q => (T[q]?.getD []).count (v : Int)) d : Nat) ∧ (iter (fun q s => (T[q]?.getD []).foldl stepC s) d 0 s).2 v = s.2 v + (sumF (fun q => (T[q]?.getD []).count (-(v : Int))) d : Nat) := by
    intro d
    induction d with
    | zero => exact fun _ => by simp [iter, sumF]
    | succ d ih =>
      intro hd
      obtain ⟨i1, i2⟩ := ih (by omega)
      obtain ⟨c1, c2⟩ := fold_count (T[d]?.getD []) (h d (by omega)) (iter (fun q s => (T[q]?.getD []).foldl stepC s) d 0 s) v hv
      rw [iter_succ, Nat.zero_add, c1, c2, i1, i2, sumF, sumF]
      omega
  unfold rowsC
  rw [<- iter_foldl (fun s w => w.foldl stepC s) []]
  exact key T.length (Nat.le_refl _)
theorem cr_l3 (z : β) {N L : Nat} (hN : 1100 < N) (hL : L <= 64) {ids : List (Nat × Nat)} {P T : List (List Int)} (t : TabP ids P T) (hl : ids.length = T.length) (hT : T.length <= 8) (hlen : ∀ a, a < T.length -> (rowAt T a).length <= 1000) (hx : ∀ a, a < T.length -> ∀ x ∈ rowAt T a, x ≠ 0 ∧ -(L : Int) <= x ∧ x <= L)
    (x y : Nat) (t8 t21 : Int) (h0_n : Nat) (h0 : Nat -> Int) (h1_0 : Int) (h1_1 h1_2 : Nat -> Int) (h2 h3 : List Int) (h4 : List (Nat × Nat)) (h5 : List (List Int)) (h6 : List (Nat × Nat)) (h7 : List (List Int)) (h10 : List (Nat × Nat)) (h11 : List (List Int)) (k0 k1 : (Nat -> Int) -> (Nat -> Int) -> β) :
    q05i z N x L y t8 T.length T.length T.length t21 (L + 1) (L + 1) (L + 1) (L + 1) (L + 1) (L + 1) h0_n h0 h1_0 h1_1 h1_2 h2 h3 h4 h5 h6 h7 ids P h10 h11 (L + 1) (L + 1) N 0 (fun _ => 0) (fun _ => 0) k0 k1 = k1 (rowsC T (fun _ => 0, fun _ => 0)).1 (rowsC T (fun _ => 0, fun _ => 0)).2 := by
  have main := up_to (L := fun m a (s : (Nat -> Int) × (Nat -> Int)) => q05i z N x L y t8 T.length T.length T.length t21 (L + 1) (L + 1) (L + 1) (L + 1) (L + 1) (L + 1) h0_n h0 h1_0 h1_1 h1_2 h2 h3 h4 h5 h6 h7 ids P h10 h11 (L + 1) (L + 1) m (a : Int) s.1 s.2 k0 k1) (n := T.length) (out := fun s => k1 s.1 s.2) (f := fun a s => (T[a]?.getD []).foldl stepC s)
    (I := fun a s => ∀ v, (0 <= s.1 v ∧ s.1 v <= 1000 * (a : Int)) ∧ 0 <= s.2 v ∧ s.2 v <= 1000 * (a : Int))
    (fun m a s ha hs => by
      obtain ⟨e1, e2⟩ := cr_l4 z hN hL t hl ha hT (hlen a ha) (hx a ha) (B := 1000 * (a : Int)) (by omega) hs x y t8 t21 h0_n h0 h1_0 h1_1 h1_2 h2 h3 h4 h5 h6 h7 h10 h11 (fun q38 q39 => k0 q38 q39) (fun q38 q39 => cond (fits .i64 ((a : Int) + 1)) (q05i z N x L y t8 T.length T.length T.length t21 (L + 1) (L + 1) (L + 1) (L + 1) (L + 1) (L + 1) h0_n h0 h1_0 h1_1 h1_2 h2 h3 h4 h5 h6 h7 ids P h10 h11 (L + 1) (L + 1) m ((a : Int) + 1) q38 q39 k0 k1) z)
      refine ⟨?_, fun v => by have := e2 v; unfold rowAt at this; rw [Int.natCast_succ, Int.mul_add]; omega⟩
      rw [q05i, q05h, c_ble (by omega), c_lt (by omega)]
      refine e1.trans ?_
      rw [c_fits (by omega)]
      rfl)
    (fun m s _ => by simp (disch := omega) only [q05i, q05h, c_ble, c_nlt]) T.length N 0 (fun _ => 0, fun _ => 0) (by omega) (by omega) (fun v => by simp)
  rw [iter_foldl (fun s w => w.foldl stepC s) []] at main
  exact main
theorem cr_l5 (z : β) {N L : Nat} (hN : 1100 < N) (hL : L <= 64) {ov un : Nat -> Int} (ho : ∀ k, 1 <= k -> k <= L -> ov k = 1 ∧ un k = 1)
    (x y : Nat) (t8 t21 : Int) (h0_n : Nat) (h0 : Nat -> Int) (h1_0 : Int) (h1_1 h1_2 : Nat -> Int) (h2 h3 : List Int) (h4 : List (Nat × Nat)) (h5 : List (List Int)) (h6 : List (Nat × Nat)) (h7 : List (List Int)) (h8 : List (Nat × Nat)) (h9 : List (List Int)) (h10 : List (Nat × Nat)) (h11 : List (List Int)) (k0 k1 : β) :
    q05k z x L y t8 t21 (L + 1) (L + 1) (L + 1) (L + 1) (L + 1) (L + 1) h0_n h0 h1_0 h1_1 h1_2 h2 h3 h4 h5 h6 h7 h8 h9 h10 h11 (L + 1) ov (L + 1) un N 1 k0 k1 = k1 :=
  up_to (L := fun m j (_ : Unit) => q05k z x L y t8 t21 (L + 1) (L + 1) (L + 1) (L + 1) (L + 1) (L + 1) h0_n h0 h1_0 h1_1 h1_2 h2 h3 h4 h5 h6 h7 h8 h9 h10 h11 (L + 1) ov (L + 1) un m ((j + 1 : Nat) : Int) k0 k1) (n := L) (out := fun _ => k1) (f := fun _ s => s) (I := fun _ _ => True)
    (fun m j s hj _ => ⟨by
      obtain ⟨o1, o2⟩ := ho (j + 1) (by omega) (by omega)
      simp only [q05k, q05j, c_and, Int.toNat_natCast, o1, o2]
      simp (disch := omega) only [c_lt, c_le, c_ble, c_blt, c_beq, c_fits, c_nne]
      rfl, trivial⟩)
    (fun m s _ => by simp (disch := omega) only [q05k, q05j, c_ble, c_nle]) L N 0 () (by omega) (by omega) trivial
theorem c_len (q : Nat) (h : q <= 64) {x y : β} : cond (decide ((q : Int) + 1 <= (q : Int) + 1) && decide ((q : Int) + 1 <= 1073741824) && true && true) x y = x := by
  have e : ∀ (w : Int), w <= 1073741824 -> cond (decide (w <= w) && decide (w <= 1073741824) && true && true) x y = x := fun w hw => by
    rw [decide_eq_true (Int.le_refl w), decide_eq_true hw]
    rfl
  exact e ((q : Int) + 1) (by omega)
theorem link_go (z : β) {N n : Nat} {X O : Nat -> Int} (hN : 200 < N) (g : GridP n X O) (hX : ∀ j, 0 <= X j) (hO : ∀ j, 0 <= O j) {r : β} (k : Nat -> Nat -> Nat -> List (Nat × Nat) -> List (List Int) -> β)
    (h : ∀ ids pool M, TabF ids pool (cmpC n X O) (cmpC n X O) M -> ids.length = cmpC n X O -> (∀ a b, a < cmpC n X O -> b < cmpC n X O -> M a b = linkD n X (cmpN n X O) (crossL n X O) a b) -> k (cmpC n X O) (cmpC n X O) (cmpC n X O) ids pool = r) : q023 z N n X O k = r := by
  obtain ⟨ids, pool, ⟨M, h1, h2, h3⟩, e⟩ := i_Grid_linking_valF z hN g hX hO k
  rw [e]
  exact h ids pool M h1 h2 h3
theorem gauss_go (z : β) {N n : Nat} {X O : Nat -> Int} (hN : 200 < N) (g : GridP n X O) (hX : ∀ j, 0 <= X j) (hO : ∀ j, 0 <= O j) {r : β} (k : Nat -> Nat -> Nat -> List (Nat × Nat) -> List (List Int) -> β)
    (h : ∀ ids P, TabP ids P (gaussT n X O) -> ids.length = (gaussT n X O).length -> k (gaussT n X O).length (gaussT n X O).length (gaussT n X O).length ids P = r) : q046 z N n X O k = r := by
  obtain ⟨ids, P, ⟨h1, h2⟩, e⟩ := i_Grid_gauss_val z hN g hX hO k
  rw [e]
  exact h ids P h1 h2
theorem linkD_bd {n : Nat} {X O : Nat -> Int} (h8 : n <= 8) (wh : Nat -> Nat) (a b : Nat) : -128 <= linkD n X wh (crossL n X O) a b ∧ linkD n X wh (crossL n X O) a b <= 128 := by
  have hc := crossL_inv X O h8
  have hle := hc.le
  have b1 := pS_bd (n := n) (X := X) (wh := wh) hc a a _ (Nat.le_refl _)
  have b2 := pS_bd (n := n) (X := X) (wh := wh) hc a b _ (Nat.le_refl _)
  have b3 := pS_bd (n := n) (X := X) (wh := wh) hc b a _ (Nat.le_refl _)
  unfold linkD
  split
  · omega
  · have := tdiv2_bd (x := pS n X wh (crossL n X O) ((crossL n X O).length / 3) a b + pS n X wh (crossL n X O) ((crossL n X O).length / 3) b a) (m := 128) (by omega)
    omega
theorem law_nh (z : β) {N : Nat} (hN : 5000 < N) {n l c hn : Nat} {h : Nat -> Int} (hl : l <= 4096) {m : Nat} {X O : Nat -> Int} (e1 : ∀ k, q053 z N n l c hn h k = k m X O) (g : GridP m X O) (hX : Byt X) (hO : Byt O) (k0 : Bool -> β) : nh_w_FnCrossings z N n l c hn h k0 = k0 true := by
  have x := fun j => (hX.b j).1
  have o := fun j => (hO.b j).1
  have h8 := g.hi
  have G : KrG N m X O := ⟨m, rfl, by omega, g, hX, hO⟩
  have G2 : KrG N m O X := ⟨m, rfl, by omega, g.swap, hO, hX⟩
  obtain ⟨f1, f2, f3⟩ := flip_grid g x o
  obtain ⟨fa, fb⟩ := flipS_at m X O
  have G3 : KrG N m (flipS m X O).1 (flipS m X O).2 := ⟨m, rfl, by omega, f1, byt_ofC h8 f1.px f2 fun j hj => by rw [fa, if_neg (by omega)], byt_ofC h8 f1.po f3 fun j hj => by rw [fb, if_neg (by omega)]⟩
  have hc := crossL_inv X O h8
  have hle := hc.le
  have hlen := hc.len
  have hwb := writheS_bd hc
  have wsw := writhe_swap m X O
  have wfl := writhe_flip g x o
  have K := crossL_key (n := m) X O h8
  have hcn := (cmp_links g x o).1.cn
  have inv := startS_inv h8 (nxtC_lt g x o) (nxtC_inj g x o)
  have ilen := inv.len
  have ile := inv.comp.le
  have hgl : (gaussT m X O).length = (startS (nxtC m X O) m).2.length := by unfold gaussT; simp
  have first : ∀ x y : β, cond (decide ((4096 : Int) < l)) x y = y := fun x y => c_nlt (by omega)
  have hlk : (lkT m X O).length = cmpC m X O := by unfold lkT; simp
  have hrowG : ∀ a, a < (gaussT m X O).length -> rowAt (gaussT m X O) a = gaussR m X O ((startS (nxtC m X O) m).2[a]?.getD 0) ∧ (startS (nxtC m X O) m).2[a]?.getD 0 < m := fun a ha => by
    refine ⟨?_, inv.lt a (by omega)⟩
    unfold rowAt gaussT
    rw [List.getElem?_map, List.getElem?_eq_getElem (by omega)]
    rfl
  have sG : SmallT N (gaussT m X O) := ⟨by omega, fun a ha => by
    obtain ⟨r1, r2⟩ := hrowG a ha
    rw [r1]
    have := gaussR_len g x o r2
    omega⟩
  have sL : SmallT N (lkT m X O) := ⟨by omega, fun a ha => by
    have : rowAt (lkT m X O) a = (List.range (cmpC m X O)).map fun b => linkD m X (cmpN m X O) (crossL m X O) a b := by
      unfold rowAt lkT
      rw [List.getElem?_map, List.getElem?_range (by omega)]
      rfl
    rw [this]
    simp
    omega⟩
  have hxG : ∀ a, a < (gaussT m X O).length -> ∀ v ∈ rowAt (gaussT m X O) a, v ≠ 0 ∧ -(((crossL m X O).length / 3 : Nat) : Int) <= v ∧ v <= ((crossL m X O).length / 3 : Nat) := fun a ha v hv => by
    rw [(hrowG a ha).1] at hv
    unfold gaussR at hv
    obtain ⟨i, _, hi⟩ := List.mem_flatMap.1 hv
    exact gCol_mem hi
  have ones : ∀ k, 1 <= k -> k <= (crossL m X O).length / 3 -> (rowsC (gaussT m X O) (fun _ => 0, fun _ => 0)).1 k = 1 ∧ (rowsC (gaussT m X O) (fun _ => 0, fun _ => 0)).2 k = 1 := fun k hk1 hk2 => by
    obtain ⟨c1, c2⟩ := rowsC_count (T := gaussT m X O) (fun a ha v hv => (hxG a ha v hv).1) (fun _ => 0, fun _ => 0) hk1
    have d1 := over_one K (k := k - 1) (by omega)
    have d2 := under_one g o K (k := k - 1) (by omega)
    rw [show ((k - 1 : Nat) : Int) + 1 = k by omega] at d1 d2
    rw [c1, c2, gaussT_count g x o, gaussT_count g x o, d1, d2]
    exact ⟨rfl, rfl⟩
  unfold nh_w_FnCrossings w_big
  rw [c_ble (by omega)]
  simp only [first, c_false, e1, nh_i_CrossingsOf, nh_s_CrossingsOf, nh_i_WritheOf, nh_s_WritheOf, nh_i_LinkingTable, nh_s_LinkingTable, nh_i_GaussCodes, nh_s_GaussCodes, nh_i_ExchangeOf, nh_i_FlipOf, c_bP G]
  rw [show xsL (m : Int) X O = crossL m X O from rfl]
  simp only [Int.toNat_natCast]
  refine link_go z (by omega) g x o _ fun ids pool M t hl hM => ?_
  refine gauss_go z (by omega) g x o _ fun ids2 P2 t2 hl2 => ?_
  have tL : TabP ids pool (lkT m X O) := by
    have := t.toP (Nat.le_refl _)
    have e : tabM M (cmpC m X O) (cmpC m X O) = lkT m X O := by
      unfold tabM lkT
      refine List.map_congr_left fun a ha => ?_
      rw [List.mem_range] at ha
      refine List.map_congr_left fun b hb => ?_
      rw [List.mem_range] at hb
      exact hM a b ha hb
    rwa [e] at this
  have tot : sumI (fun a => sumI (fun b => M a b) (cmpC m X O)) (cmpC m X O) = writheS (crossL m X O) := by
    rw [<- linkD_total g x o]
    exact sumI_congr fun a ha => sumI_congr fun b hb => hM a b ha hb
  have big1 : ((((crossL m X O).length / 3 : Nat) : Int) + 1).toNat = (crossL m X O).length / 3 + 1 := by omega
  simp only [big1]
  rw [c_ble (by omega), c_ble (by omega), c_nne rfl, c_nne rfl, rows5_go z tL (TabP.of_app (lkT m X O)) sL (by omega) (by omega) (by rw [idsOf_len]; omega) (by omega)]
  simp only [Bool.not_true, c_false]
  rw [rows5_go z t2 (TabP.of_app (gaussT m X O)) sG (by omega) rfl (by rw [idsOf_len]) rfl]
  simp only [Bool.not_true, c_false]
  rw [cr_l0 z hlen hle (by omega), cr_l1 z (by omega) (by omega) t hl (fun i j hi hj => by rw [hM i j hi hj]; exact linkD_bd h8 _ i j) (fun i j hi hj => by rw [hM i j hi hj, hM j i hj hi]; exact linkD_sym _ i j), tot]
  rw [c_ble (by omega), c_fits (by omega), c_len _ hle, c_ble (by omega), c_fits (by omega), c_len _ hle]
  rw [cr_l3 z (by omega) hle t2 hl2 (by omega) (fun a ha => (sG.cols a ha).2) hxG, cr_l5 z (by omega) hle ones]
  simp only [c_bP G2, c_bP G3, show ∀ (A B : Nat -> Int), xsL (m : Int) A B = crossL m A B from fun _ _ => rfl, wsw, wfl]
  rw [c_nne rfl, c_nne rfl, c_fits (by omega), c_nne rfl]
theorem law_nb (z : β) {N : Nat} (hN : 5000 < N) {n l c hn : Nat} {h : Nat -> Int} (hl : l <= 4096) {m : Int} {X O : Nat -> Int} (e1 : ∀ k, q053 z N n l c hn h k = k m X O) (hb : gridB m X O = false) (hX : Byt X) (hO : Byt O) (k0 : Bool -> β) : nb_w_FnCrossings z N n l c hn h k0 = k0 true := by
  have G : KrB N m X O := ⟨by omega, hb, hX, hO⟩
  have first : ∀ x y : β, cond (decide ((4096 : Int) < l)) x y = y := fun x y => c_nlt (by omega)
  have z0 : ∀ (a : Nat) (b : Nat -> Int) (c : Int) (d e : Nat -> Int) (k : β), q055 z 0 a b c d e N k = k := fun a b c d e k => by
    obtain ⟨N', rfl⟩ : ∃ N', N = N' + 1 := ⟨N - 1, by omega⟩
    rw [q055, q054, c_nlt (by omega)]
  unfold nb_w_FnCrossings w_big
  rw [c_ble (by omega)]
  simp only [first, c_false, e1, nb_i_CrossingsOf, nb_s_CrossingsOf, nb_i_WritheOf, nb_s_WritheOf, nb_i_LinkingTable, nb_s_LinkingTable, nb_i_GaussCodes, nb_s_GaussCodes, c_bP G, rows5_nil z (show 0 < N by omega), Bool.not_true, z0]
theorem w_FnCrossings_or (z : β) {N : Nat} (hN : 5000 < N) (n l c hn : Nat) (h : Nat -> Int) (hq : n = hn) (hl : l = hn) (hs : l <= 9223372036854775807) (hb : ∀ j, j < hn -> 0 <= h j ∧ h j <= 255) :
    (∀ k0, nb_w_FnCrossings z N n l c hn h k0 = k0 true) ∨ (∀ k0, nh_w_FnCrossings z N n l c hn h k0 = k0 true) := by
  by_cases hbig : (4096 : Int) < l
  · refine .inl fun k0 => ?_
    unfold nb_w_FnCrossings w_big
    rw [c_ble (by omega), decide_eq_true hbig]
    rfl
  have S : Src hn h n l := ⟨hq, by omega, by omega, hb⟩
  obtain ⟨b, e0⟩ := from_val z hN S c
  obtain ⟨m, X, O, a1, b1, hm, hX, hO, ha1, e1⟩ := spoil1_val z (by omega : 100 < N) S c (Int.le_refl 0) b
  have ed : ∀ k, q053 z N n l c hn h k = k m X O := fun k => by
    unfold q053
    rw [e0, e1]
  cases b2 : gridB m X O with
  | false => exact .inl fun k0 => law_nb z hN (by omega) ed b2 hX hO k0
  | true =>
    obtain ⟨m, rfl, g⟩ := gridB_iff.1 b2
    exact .inr fun k0 => law_nh z hN (by omega) ed g hX hO k0
end
end Go.AM
