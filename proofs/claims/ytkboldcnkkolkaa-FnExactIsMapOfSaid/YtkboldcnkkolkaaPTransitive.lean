/- A part of a proof about the given program: an abstract machine, what the given functions come to, and plain laws. -/
import Derived.Test.YtkboldcnkkolkaaPReach
namespace Go.AM
section
variable {β : Type}
/-- Marks as bits of a number. -/
def mk (s : Nat → Bool) : Int := cond (s 0) 1 0 + cond (s 1) 2 0 + cond (s 2) 4 0 + cond (s 3) 8 0
theorem mk_test (s : Nat → Bool) {x : Nat} (hx : x < 4) : (bitI BinOp.and IntKind.i64 (shrI (mk s) x) 1 == 1) = s x := by
  have : x = 0 ∨ x = 1 ∨ x = 2 ∨ x = 3 := by omega
  unfold mk
  rcases this with rfl | rfl | rfl | rfl <;> cases s 0 <;> cases s 1 <;> cases s 2 <;> cases s 3 <;> rfl
theorem mk_or (s : Nat → Bool) {y : Nat} (hy : y < 4) : bitI BinOp.or IntKind.i64 (mk s) (shlI 1 y) = mk (upd s y true) := by
  have : y = 0 ∨ y = 1 ∨ y = 2 ∨ y = 3 := by omega
  unfold mk
  simp only [upd_at]
  rcases this with rfl | rfl | rfl | rfl <;> simp <;> cases s 0 <;> cases s 1 <;> cases s 2 <;> cases s 3 <;> rfl
theorem mk_all (s : Nat → Bool) {K : Nat} (h1 : 1 ≤ K) (h4 : K ≤ 4) (hs : ∀ y, s y = true → y < K) : (mk s == shlI 1 K - 1) = ((cnt4 s : Int) == K) := by
  have off : ∀ y, K ≤ y → s y = false := fun y hy => by
    cases e : s y with
    | false => rfl
    | true => have := hs y e; omega
  have : K = 1 ∨ K = 2 ∨ K = 3 ∨ K = 4 := by omega
  unfold mk cnt4
  rcases this with rfl | rfl | rfl | rfl
  · rw [off 1 (by omega), off 2 (by omega), off 3 (by omega)]; cases s 0 <;> rfl
  · rw [off 2 (by omega), off 3 (by omega)]; cases s 0 <;> cases s 1 <;> rfl
  · rw [off 3 (by omega)]; cases s 0 <;> cases s 1 <;> cases s 2 <;> rfl
  · cases s 0 <;> cases s 1 <;> cases s 2 <;> cases s 3 <;> rfl
theorem fits_shl {y : Nat} (hy : y ≤ 4) : fits .i64 (shlI 1 y) = true := by
  have : y = 0 ∨ y = 1 ∨ y = 2 ∨ y = 3 ∨ y = 4 := by omega
  rcases this with rfl | rfl | rfl | rfl | rfl <;> rfl
theorem fits_shl1 {y : Nat} (hy : y ≤ 4) : fits .i64 (shlI 1 y - 1) = true := by
  have : y = 0 ∨ y = 1 ∨ y = 2 ∨ y = 3 ∨ y = 4 := by omega
  rcases this with rfl | rfl | rfl | rfl | rfl <;> rfl
def stepF (h : Nat → Int) (x j : Nat) (s : Nat → Bool) : Nat → Bool := if s x = true then upd s (getP h j x) true else s
def rowF (h : Nat → Int) (M x : Nat) (s : Nat → Bool) : Nat → Bool := iter (stepF h x) M 0 s
def passF (h : Nat → Int) (K M : Nat) (s : Nat → Bool) : Nat → Bool := iter (rowF h M) K 0 s
def allF (h : Nat → Int) (K M d : Nat) (s : Nat → Bool) : Nat → Bool := iter (fun _ => passF h K M) d 0 s
theorem i_isTransitive_val (z : β) {K M c N : Nat} {h : Nat → Int} (L : Lists K M h) (hM : M ≤ 1048576) (hN : 1048576 < N) (k : Bool → β) :
    i_isTransitive z N K (M * 4) M c (M * 4) h k = k (mk (allF h K M K (upd (fun _ => false) 0 true)) == shlI 1 K - 1) := by
  have h4 := L.hi
  have l2 : ∀ (x : Nat) (s : Nat → Bool) (a b e f : Int) (k0 : Int → β), x < K → i_isTransitive_l2 z K (M * 4) M c x a b e f (M * 4) M c (M : Int) (M * 4) h N (mk s) 0 k0 = k0 (mk (rowF h M x s)) := by
    intro x s a b e f k0 hx
    refine up_to (L := fun m j s => i_isTransitive_l2 z K (M * 4) M c x a b e f (M * 4) M c (M : Int) (M * 4) h m (mk s) (j : Int) k0) (n := M) (out := fun s => k0 (mk s)) (f := stepF h x) (I := fun _ _ => True)
      (fun m j s hj _ => ⟨?_, trivial⟩) (fun m s _ => ?_) M N 0 s (by omega) (by omega) trivial
    · obtain ⟨f1, f2⟩ := L.val j x hj hx
      simp only [i_isTransitive_l2, i_isTransitive_l2_s, c_and, Int.toNat_natCast, shiftF_eq, f1, mk_test s (show x < 4 by omega), fits_shl (show getP h j x ≤ 4 by omega), mk_or s (show getP h j x < 4 by omega), c_true]
      simp (disch := omega) only [c_lt, c_le, c_blt, c_ble, c_beq, c_fits]
      unfold stepF
      cases hs : s x with
      | true => rw [if_pos rfl]; rfl
      | false => rw [if_neg (by simp)]; rfl
    · simp (disch := omega) only [i_isTransitive_l2, i_isTransitive_l2_s, c_nlt]
  have l1 : ∀ (s : Nat → Bool) (a b : Int) (k0 : Int → β), i_isTransitive_l1 z N K (M * 4) M c a b (K : Int) (M * 4) h N (mk s) 0 k0 = k0 (mk (passF h K M s)) := by
    intro s a b k0
    refine up_to (L := fun m x s => i_isTransitive_l1 z N K (M * 4) M c a b (K : Int) (M * 4) h m (mk s) (x : Int) k0) (n := K) (out := fun s => k0 (mk s)) (f := rowF h M) (I := fun _ _ => True)
      (fun m x s hx _ => ⟨?_, trivial⟩) (fun m s _ => ?_) K N 0 s (by omega) (by omega) trivial
    · simp only [i_isTransitive_l1, i_isTransitive_l1_s, l2 x s _ _ _ _ _ hx]
      simp (disch := omega) only [c_lt, c_ble, c_fits]
      rfl
    · simp (disch := omega) only [i_isTransitive_l1, i_isTransitive_l1_s, c_nlt]
  unfold i_isTransitive
  have := up_to (L := fun m t s => i_isTransitive_l0 z N K (M * 4) M c (K : Int) (M * 4) h m (mk s) (t : Int) (fun q9 => k (q9 == shlI 1 K - 1))) (n := K) (out := fun s => k (mk s == shlI 1 K - 1)) (f := fun _ => passF h K M) (I := fun _ _ => True)
      (fun m t s ht _ => ⟨by
        simp only [i_isTransitive_l0, i_isTransitive_l0_s, l1 s]
        simp (disch := omega) only [c_lt, c_fits]
        rfl, trivial⟩) (fun m s _ => by simp (disch := omega) only [i_isTransitive_l0, i_isTransitive_l0_s, c_nlt]) K N 0 (upd (fun _ => false) 0 true) (by omega) (by omega) trivial
  simp only [c_and, fits_shl h4, fits_shl1 h4, c_true]
  simp (disch := omega) only [c_lt, c_le]
  exact this
/-- Marks that grow. -/
def LeB (s s' : Nat → Bool) : Prop := ∀ y, s y = true → s' y = true
theorem iter_grow {f : Nat → (Nat → Bool) → Nat → Bool} {n : Nat} (hf : ∀ i s, i < n → LeB s (f i s)) : ∀ (d i : Nat) (s : Nat → Bool), i + d ≤ n → LeB s (iter f d i s) := by
  intro d
  induction d with
  | zero => intro i s _ y hy; exact hy
  | succ d ih => intro i s hn y hy; exact ih (i + 1) _ (by omega) y (hf i s (by omega) y hy)
theorem iter_mid {f : Nat → (Nat → Bool) → Nat → Bool} {n : Nat} (hf : ∀ i s, i < n → LeB s (f i s)) : ∀ (d i : Nat) (s : Nat → Bool), i + d ≤ n → ∀ k, k < d → ∃ s', LeB s s' ∧ LeB (f (i + k) s') (iter f d i s) := by
  intro d
  induction d with
  | zero => intro i s _ k hk; omega
  | succ d ih =>
    intro i s hn k hk
    cases k with
    | zero => exact ⟨s, fun _ h => h, iter_grow hf d (i + 1) _ (by omega)⟩
    | succ k =>
      obtain ⟨s', h1, h2⟩ := ih (i + 1) (f i s) (by omega) k (by omega)
      refine ⟨s', fun y hy => h1 y (hf i s (by omega) y hy), ?_⟩
      rw [show i + (k + 1) = i + 1 + k by omega]
      exact h2
theorem step_grow (h : Nat → Int) (x j : Nat) (s : Nat → Bool) : LeB s (stepF h x j s) := by
  intro y hy
  unfold stepF
  split
  · rw [upd_at]; split <;> simp_all
  · exact hy
theorem row_grow (h : Nat → Int) (M x : Nat) (s : Nat → Bool) : LeB s (rowF h M x s) := iter_grow (n := M) (fun i s _ => step_grow h x i s) M 0 s (by omega)
theorem pass_grow (h : Nat → Int) (K M : Nat) (s : Nat → Bool) : LeB s (passF h K M s) := iter_grow (n := K) (fun i s _ => row_grow h M i s) K 0 s (by omega)
theorem pass_next {h : Nat → Int} {K M x j : Nat} {s : Nat → Bool} (hx : x < K) (hj : j < M) (hs : s x = true) : passF h K M s (getP h j x) = true := by
  obtain ⟨s', h1, h2⟩ := iter_mid (f := rowF h M) (n := K) (fun i s _ => row_grow h M i s) K 0 s (by omega) x hx
  rw [Nat.zero_add] at h2
  refine h2 _ ?_
  obtain ⟨s2, h3, h4⟩ := iter_mid (f := stepF h x) (n := M) (fun i s _ => step_grow h x i s) M 0 s' (by omega) j hj
  rw [Nat.zero_add] at h4
  refine h4 _ ?_
  unfold stepF
  rw [if_pos (h3 x (h1 x hs)), upd_at, if_pos rfl]
/-- Marks of points that can be reached. -/
def Sound (K M : Nat) (h : Nat → Int) (s : Nat → Bool) : Prop := s 0 = true ∧ ∀ y, s y = true → ReachP K M h y
theorem pass_sound {K M : Nat} {h : Nat → Int} {s : Nat → Bool} (hs : Sound K M h s) : Sound K M h (passF h K M s) := by
  have row : ∀ x s, x < K → Sound K M h s → Sound K M h (rowF h M x s) := by
    intro x s hx hs
    have := iter_inv (f := stepF h x) (n := M) (I := fun _ s => Sound K M h s) (fun j s hj hs => by
      refine ⟨step_grow h x j s 0 hs.1, fun y hy => ?_⟩
      unfold stepF at hy
      split at hy
      · rename_i hsx
        rw [upd_at] at hy
        split at hy
        · rename_i e; rw [e]; exact reach_next hx (hs.2 x hsx) hj
        · exact hs.2 y hy
      · exact hs.2 y hy) M 0 s (by omega) hs
    exact this
  exact iter_inv (f := rowF h M) (n := K) (I := fun _ s => Sound K M h s) (fun x s hx hs => row x s hx hs) K 0 s (by omega) hs
theorem cnt4_mono {s s' : Nat → Bool} (hle : LeB s s') (hc : cnt4 s' ≤ cnt4 s) {y : Nat} (hy : y < 4) (h : s' y = true) : s y = true := by
  have key : ∀ y, (s y).toNat ≤ (s' y).toNat := fun y => by
    cases e : s y with
    | false => simp
    | true => rw [hle y e]; exact Nat.le_refl _
  unfold cnt4 at hc
  have a := key 0; have b := key 1; have c := key 2; have d := key 3
  have : (s' y).toNat ≤ (s y).toNat := by
    have : y = 0 ∨ y = 1 ∨ y = 2 ∨ y = 3 := by omega
    rcases this with rfl | rfl | rfl | rfl <;> omega
  rw [h] at this
  cases e : s y with
  | false => rw [e] at this; simp at this
  | true => rfl
theorem pass_closed {K M : Nat} {h : Nat → Int} (L : Lists K M h) {s : Nat → Bool} (hs : Sound K M h s) : Closed K M h s ∧ Closed K M h (passF h K M s) ∨ cnt4 s + 1 ≤ cnt4 (passF h K M s) := by
  rcases Nat.lt_or_ge (cnt4 s) (cnt4 (passF h K M s)) with hlt | hge
  · exact .inr hlt
  · have hg := pass_grow h K M s
    have h4 := L.hi
    have cl : Closed K M h s := ⟨hs.1, fun x hx hsx j hj => cnt4_mono hg hge (Nat.lt_of_lt_of_le (L.val j x hj hx).2 h4) (pass_next hx hj hsx)⟩
    refine .inl ⟨cl, hg 0 hs.1, fun x hx hsx j hj => hg _ (cl.2 x hx ?_ j hj)⟩
    exact (pass_sound hs).2 x hsx s cl
theorem cnt4_bd {s : Nat → Bool} {K : Nat} (h4 : K ≤ 4) (hs : ∀ y, s y = true → y < K) : cnt4 s ≤ K := by
  have off : ∀ y, K ≤ y → s y = false := fun y hy => by
    cases e : s y with
    | false => rfl
    | true => have := hs y e; omega
  have le := fun b : Bool => Bool.toNat_le b
  have a := le (s 0); have b := le (s 1); have c := le (s 2); have d := le (s 3)
  have : K = 0 ∨ K = 1 ∨ K = 2 ∨ K = 3 ∨ K = 4 := by omega
  unfold cnt4
  rcases this with rfl | rfl | rfl | rfl | rfl
  · rw [off 0 (by omega), off 1 (by omega), off 2 (by omega), off 3 (by omega)]; simp
  · rw [off 1 (by omega), off 2 (by omega), off 3 (by omega)]; simp; exact a
  · rw [off 2 (by omega), off 3 (by omega)]; simp; omega
  · rw [off 3 (by omega)]; simp; omega
  · omega
theorem closed_pass {K M : Nat} {h : Nat → Int} {s : Nat → Bool} (hs : Sound K M h s) (hc : Closed K M h s) : Closed K M h (passF h K M s) :=
  ⟨pass_grow h K M s 0 hs.1, fun x hx hsx j hj => pass_grow h K M s _ (hc.2 x hx ((pass_sound hs).2 x hsx s hc) j hj)⟩
theorem allF_tells {K M : Nat} {h : Nat → Int} (L : Lists K M h) : Tells K M h (allF h K M K (upd (fun _ => false) 0 true)) := by
  have h0 : Sound K M h (upd (fun _ => false) 0 true) := ⟨rfl, fun y hy => by
    rw [upd_at] at hy
    split at hy
    · rename_i e; rw [e]; exact reach_0
    · cases hy⟩
  have key := iter_inv (f := fun _ => passF h K M) (n := K) (I := fun i s => Sound K M h s ∧ (Closed K M h s ∨ i + 1 ≤ cnt4 s)) (fun i s hi ⟨h1, h2⟩ => by
    refine ⟨pass_sound h1, ?_⟩
    rcases h2 with hc | hc
    · exact .inl (closed_pass h1 hc)
    · rcases pass_closed L h1 with ⟨_, hc2⟩ | hc2
      · exact .inl hc2
      · exact .inr (by omega)) K 0 (upd (fun _ => false) 0 true) (by omega) ⟨h0, .inr (by simp [cnt4, upd_at])⟩
  rw [Nat.zero_add] at key
  obtain ⟨k1, k2⟩ := key
  have hc : Closed K M h (allF h K M K (upd (fun _ => false) 0 true)) := by
    rcases k2 with hc | hc
    · exact hc
    · have := cnt4_bd L.hi (fun y hy => reach_lt L (k1.2 y hy))
      omega
  exact fun y => ⟨k1.2 y, fun hr => hr _ hc⟩
theorem tells_cnt {K M : Nat} {h : Nat → Int} {s s' : Nat → Bool} (h1 : Tells K M h s) (h2 : Tells K M h s') : cnt4 s = cnt4 s' := by
  have : s = s' := funext fun y => by
    rw [Bool.eq_iff_iff, h1 y, h2 y]
  rw [this]
theorem lists_of {K : Int} {M : Nat} {h : Nat → Int} (hh : ∀ j, 0 ≤ h j) (hb : listB M h K = true) : ∃ k : Nat, K = k ∧ Lists k M h := by
  unfold listB at hb
  simp only [Bool.and_eq_true, decide_eq_true_eq] at hb
  obtain ⟨⟨h1, h2⟩, h3⟩ := hb
  obtain ⟨k, rfl⟩ : ∃ k : Nat, K = k := ⟨K.toNat, by omega⟩
  refine ⟨k, rfl, by omega, by omega, fun j x hj hx => ?_⟩
  have := (allFrom_iff M 0).1 h3 j (by omega) (by omega)
  unfold placesB at this
  simp only [Bool.and_eq_true, permB_iff, Int.toNat_natCast] at this
  have hp := this.2.2.1 x hx
  rw [shiftF_eq] at hp
  have := hh (j * 4 + x)
  unfold getP
  omega
theorem w_FnExactIsTransitive_main (z : β) {N : Nat} (hN : 1048576 < N) (aK : Int) (M : Nat) (h : Nat → Int) (hM : M ≤ 9223372036854775807) (hh : ∀ j, j < 4 * M → 0 ≤ h j ∧ h j ≤ 255) (k0 : Bool → β) : w_FnExactIsTransitive z N aK (M * 4) M M (M * 4) h k0 = k0 true := by
  unfold w_FnExactIsTransitive w_szPlacesS
  rw [c_ble hM, c_fits (by omega)]
  by_cases hs : M ≤ 1048576
  · simp (disch := omega) only [c_nlt, w_toPlacesS_val z hs hN]
    have hc := fun j => (copy4_bd hh j).1
    simp only [s_IsTransitive, i_IsTransitive, s_l08List_val z hs hN hc, i_arePlaces_val z hs hN hc, eqPlacesS_val z hs hN, Bool.not_true, c_false]
    cases hb : listB M (copy4 M h) aK with
    | false => rfl
    | true =>
      obtain ⟨K, rfl, L⟩ := lists_of hc hb
      simp only [c_true, bne_self_eq_false, c_false, Bool.not_true]
      obtain ⟨s, h1, h2⟩ := s_l08Reaches_val z (c := M) L hs hN (fun q10 => i_isTransitive z N K (M * 4) M M (M * 4) (copy4 M h) (fun q10_1 => cond (q10_1 != q10) (k0 false) (k0 true)))
      rw [h2, i_isTransitive_val z L hs hN, mk_all _ L.lo L.hi (fun y hy => reach_lt L ((allF_tells L y).1 hy)), tells_cnt (allF_tells L) h1]
      simp only [bne_self_eq_false, c_false]
  · rw [c_lt (by omega)]
    rfl
theorem w_FnExactIsTransitive_val (z : β) {N : Nat} (hN : 1048576 < N) (aK : Int) (n l c hn : Nat) (h : Nat → Int) (e1 : n = l * 4) (e2 : c = l) (e3 : hn = l * 4) (hM : l ≤ 9223372036854775807) (hh : ∀ j, j < l * 4 → 0 ≤ h j ∧ h j ≤ 255) (k0 : Bool → β) :
    w_FnExactIsTransitive z N aK n l c hn h k0 = k0 true := by
  subst e1 e2 e3
  exact w_FnExactIsTransitive_main z hN aK _ h hM (fun j hj => hh j (by omega)) k0
end
end Go.AM
