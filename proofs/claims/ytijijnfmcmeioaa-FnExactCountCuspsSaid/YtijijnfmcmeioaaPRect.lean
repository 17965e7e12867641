/- A part of a proof about the given program: an abstract machine, what the given functions come to, and plain laws. -/
import Derived.Test.YtijijnfmcmeioaaPMaslov
import Derived.Test.YtijijnfmcmeioaaPShiftGrid
import Derived.Test.YtijijnfmcmeioaaDRectanglesFrom
namespace Go.AM
section
variable {β : Type}
/-- How far a point of a column lies above a row, around the grid. -/
def upm (n : Nat) (p : Nat → Int) (left : Nat) (b : Int) (k : Nat) : Int := (p (((left : Int) + k) % n).toNat - b + n) % n
def cntF (n : Nat) (p : Nat → Int) (left : Nat) (b h : Int) (k : Nat) (c : Int) : Int := if upm n p left b k < h then c + 1 else c
/-- How many points lie in a rectangle. -/
def cntM (n : Nat) (p : Nat → Int) (left : Nat) (b h : Int) (w : Nat) : Int := iter (cntF n p left b h) w 0 0
theorem cntM_succ (n : Nat) (p : Nat → Int) (left : Nat) (b h : Int) (w : Nat) : cntM n p left b h (w + 1) = cntF n p left b h w (cntM n p left b h w) := by
  unfold cntM; rw [iter_succ, Nat.zero_add]
theorem cntM_bd (n : Nat) (p : Nat → Int) (left : Nat) (b h : Int) : ∀ w, 0 ≤ cntM n p left b h w ∧ cntM n p left b h w ≤ w := by
  intro w
  induction w with
  | zero => exact ⟨Int.le_refl _, Int.le_refl _⟩
  | succ w ih => rw [cntM_succ]; unfold cntF; split <;> omega
theorem s_l05Marks_val (z : β) {N : Nat} (hN : 8 < N) {n : Nat} (h2 : 2 ≤ n) (h8 : n ≤ 8) {p : Nat → Int} (hp : ∀ j, 0 ≤ p j ∧ p j ≤ 255) {left w : Nat} (hl : left < n) (hw : w < n) {b : Int} (hb : 0 ≤ b ∧ b < n) (h : Int) (k0 : Int → β) :
    s_l05Marks z N n p left b w h k0 = k0 (cntM n p left b h w) := by
  unfold s_l05Marks
  refine up_to (L := fun m k c => s_l05Marks_l0 z n left b w h p m c (k : Int) k0) (n := w) (out := k0) (f := cntF n p left b h) (I := fun k c => 0 ≤ c ∧ c ≤ k)
    (fun m k c hk hc => ⟨?_, ?_⟩) (fun m s _ => by simp (disch := omega) only [s_l05Marks_l0, s_l05Marks_l0_s, c_nlt]) w N 0 0 (by omega) (by omega) (by omega)
  · have t1 : ((left : Int) + k).tmod n = ((left : Int) + k) % n := tmod_pos (by omega)
    have e1 := emod_bd ((left : Int) + k) (show (0 : Int) < n by omega)
    have e2 := hp (((left : Int) + k) % n).toNat
    have t2 : (p (((left : Int) + k) % n).toNat - b + n).tmod n = upm n p left b k := tmod_pos (by omega)
    simp only [s_l05Marks_l0, s_l05Marks_l0_s, c_and, c_not, t1, t2, cntF]
    by_cases hu : upm n p left b k < h
    · rw [if_pos hu]
      simp (disch := omega) only [c_lt, c_le, c_blt, c_fits, c_neq]
      rfl
    · rw [if_neg hu]
      simp (disch := omega) only [c_lt, c_nlt, c_le, c_blt, c_fits, c_neq]
      rfl
  · unfold cntF; split <;> omega
/-- A rectangle, as six numbers. -/
def rectL (n : Nat) (X O x : Nat → Int) (left w : Nat) : List Int :=
  [(left : Int), x left, (w : Int), upm n x left (x left) w, cntM n X left (x left) (upm n x left (x left) w) w, cntM n O left (x left) (upm n x left (x left) w) w]
theorem rectL_len (n : Nat) (X O x : Nat → Int) (left w : Nat) : (rectL n X O x left w).length = 6 := rfl
/-- All rectangles that fit a test. -/
def rectsL (n : Nat) (X O x : Nat → Int) (t : Nat → Nat → Bool) : List Int :=
  iter (fun left l => iter (fun w l => if t left w = true then l ++ rectL n X O x left w else l) (n - 1) 1 l) n 0 []
theorem rects_inner {n : Nat} {X O x : Nat → Int} {t : Nat → Nat → Bool} {left B : Nat} {l : List Int} (h : l.length % 6 = 0 ∧ l.length ≤ B) (h2 : 2 ≤ n) :
    (iter (fun w l => if t left w = true then l ++ rectL n X O x left w else l) (n - 1) 1 l).length % 6 = 0 ∧ (iter (fun w l => if t left w = true then l ++ rectL n X O x left w else l) (n - 1) 1 l).length ≤ B + 6 * n := by
  have := iter_inv (f := fun w l => if t left w = true then l ++ rectL n X O x left w else l) (I := fun w (l : List Int) => l.length % 6 = 0 ∧ l.length ≤ B + 6 * w) (n := n) (fun w s _ h => by
    split
    · rw [List.length_append, rectL_len]; omega
    · omega) (n - 1) 1 l (by omega) (by omega)
  rw [show 1 + (n - 1) = n by omega] at this
  exact this
theorem rectsL_len {n : Nat} (X O x : Nat → Int) (t : Nat → Nat → Bool) (h2 : 2 ≤ n) (h8 : n ≤ 8) : (rectsL n X O x t).length % 6 = 0 ∧ (rectsL n X O x t).length ≤ 400 := by
  have := iter_inv (f := fun left l => iter (fun w l => if t left w = true then l ++ rectL n X O x left w else l) (n - 1) 1 l) (I := fun i (l : List Int) => l.length % 6 = 0 ∧ l.length ≤ 48 * i) (n := n) (fun i s _ h => by
    have := rects_inner (n := n) (X := X) (O := O) (x := x) (t := t) (left := i) h h2
    omega) n 0 [] (by omega) ⟨rfl, by simp⟩
  unfold rectsL
  rw [Nat.zero_add] at this
  omega
theorem rec6 (a b c d e f : Int) : List.map (upd (upd (upd (upd (upd (upd (fun _ => 0) 0 a) 1 b) 2 c) 3 d) 4 e) 5 f) (List.range 6) = [a, b, c, d, e, f] := rfl
theorem map6 (f : Nat → Int) : List.map f (List.range 6) = [f 0, f 1, f 2, f 3, f 4, f 5] := rfl
theorem upm_bd {n : Nat} (h2 : 2 ≤ n) (p : Nat → Int) (left : Nat) (b : Int) (k : Nat) : 0 ≤ upm n p left b k ∧ upm n p left b k < n := emod_bd _ (by omega)

theorem s_l05Rects_val (z : β) {N : Nat} (hN : 8 < N) {n : Nat} {X O x : Nat → Int} (h2 : 2 ≤ n) (h8 : n ≤ 8) (hX : ∀ j, 0 ≤ X j ∧ X j ≤ 255) (hO : ∀ j, 0 ≤ O j ∧ O j ≤ 255) (hx : ∀ j, 0 ≤ x j ∧ x j ≤ 255) (hp : PermP 8 n x) (k0 : Nat → Nat → Nat → List Int → β) :
    s_l05Rects z N n X O x k0 = k0 (rectsL n X O x fun _ _ => true).length ((rectsL n X O x fun _ _ => true).length / 6) ((rectsL n X O x fun _ _ => true).length / 6) (rectsL n X O x fun _ _ => true) := by
  unfold s_l05Rects
  refine up_to (L := fun m i (l : List Int) => s_l05Rects_l0 z N n n X O x m l.length (l.length / 6) (l.length / 6) (i : Int) l k0) (n := n) (out := fun l => k0 l.length (l.length / 6) (l.length / 6) l)
    (f := fun left l => iter (fun w l => if true = true then l ++ rectL n X O x left w else l) (n - 1) 1 l) (I := fun i l => l.length % 6 = 0 ∧ l.length ≤ 48 * i)
    (fun m i l hi hl => ⟨?_, ?_⟩) (fun m s _ => by simp (disch := omega) only [s_l05Rects_l0, s_l05Rects_l0_s, c_nlt]) n N 0 [] (by omega) (by omega) ⟨rfl, by simp⟩
  · have inner : ∀ kk : Nat → Nat → Nat → List Int → β, s_l05Rects_l1 z N n i n X O x N l.length (l.length / 6) (l.length / 6) 1 l kk =
        kk (iter (fun w l => if true = true then l ++ rectL n X O x i w else l) (n - 1) 1 l).length ((iter (fun w l => if true = true then l ++ rectL n X O x i w else l) (n - 1) 1 l).length / 6) ((iter (fun w l => if true = true then l ++ rectL n X O x i w else l) (n - 1) 1 l).length / 6) (iter (fun w l => if true = true then l ++ rectL n X O x i w else l) (n - 1) 1 l) := by
      intro kk
      refine up_to (L := fun m w (l : List Int) => s_l05Rects_l1 z N n i n X O x m l.length (l.length / 6) (l.length / 6) (w : Int) l kk) (n := n) (out := fun l => kk l.length (l.length / 6) (l.length / 6) l)
        (f := fun w l => if true = true then l ++ rectL n X O x i w else l) (I := fun w l => l.length % 6 = 0 ∧ l.length ≤ 48 * i + 6 * w)
        (fun m w l hw hl => ⟨show s_l05Rects_l1 z N n i n X O x (m + 1) l.length (l.length / 6) (l.length / 6) (w : Int) l kk = s_l05Rects_l1 z N n i n X O x m (if true = true then l ++ rectL n X O x i w else l).length ((if true = true then l ++ rectL n X O x i w else l).length / 6) ((if true = true then l ++ rectL n X O x i w else l).length / 6) ((w + 1 : Nat) : Int) (if true = true then l ++ rectL n X O x i w else l) kk from ?_, ?_⟩) (fun m s _ => by simp (disch := omega) only [s_l05Rects_l1, s_l05Rects_l1_s, c_nlt]) (n - 1) N 1 l (by omega) (by omega) (by omega)
      · have t1 : ((i : Int) + w).tmod n = ((i : Int) + w) % n := tmod_pos (by omega)
        have e1 := emod_bd ((i : Int) + w) (show (0 : Int) < n by omega)
        have e2 := hx (((i : Int) + w) % n).toNat
        have e3 := hx i
        have e4 := hp.2.1 i hi
        have t2 : (x (((i : Int) + w) % n).toNat - x i + n).tmod n = upm n x i (x i) w := tmod_pos (by omega)
        simp only [s_l05Rects_l1, s_l05Rects_l1_s, c_and, c_not, t1, t2, Int.toNat_natCast, c_true]
        simp (disch := omega) only [c_lt, c_le, c_blt, c_fits, c_neq, s_l05Marks_val z hN h2 h8 hX hi hw ⟨e3.1, e4⟩, s_l05Marks_val z hN h2 h8 hO hi hw ⟨e3.1, e4⟩, c_beq, c_ble, c_nble, rec6]
        have e5 : [(i : Int), x i, (w : Int), upm n x i (x i) w, cntM n X i (x i) (upm n x i (x i) w) w, cntM n O i (x i) (upm n x i (x i) w) w] = rectL n X O x i w := rfl
        have e6 : (l ++ rectL n X O x i w).length = l.length + 6 := by rw [List.length_append, rectL_len]
        have e7 : (if True then l ++ rectL n X O x i w else l) = l ++ rectL n X O x i w := if_pos trivial
        rw [e5, e7, e6, show (l.length + 6) / 6 = l.length / 6 + 1 by omega]
        rfl
      · rw [if_pos rfl, List.length_append, rectL_len]; omega
    simp only [s_l05Rects_l0, s_l05Rects_l0_s, inner]
    simp (disch := omega) only [c_lt, c_fits]
    rfl
  · have := rects_inner (n := n) (X := X) (O := O) (x := x) (t := fun _ _ => true) (left := i) hl h2
    omega

/-- Is no point in the rectangle behind the first column? -/
def empF (n : Nat) (x : Nat → Int) (left : Nat) (b h : Int) (k : Nat) (e : Bool) : Bool := if 0 < k ∧ upm n x left b k < h then false else e
def empB (n : Nat) (x : Nat → Int) (left w : Nat) : Bool := iter (empF n x left (x left) (upm n x left (x left) w)) w 0 true
theorem rect_1 (z : β) (N : Nat) {n : Nat} (h2 : 2 ≤ n) (h8 : n ≤ 8) {p : Nat → Int} (hp : ∀ j, 0 ≤ p j ∧ p j ≤ 255) {left k : Nat} (hl : left < n) (hk : k < n) {b : Int} (hb : 0 ≤ b ∧ b < n) (kk : Int → β) :
    i_Grid_rectangle_1 z N p k left n b kk = kk (upm n p left b k) := by
  have t1 : ((left : Int) + k).tmod n = ((left : Int) + k) % n := tmod_pos (by omega)
  have e1 := emod_bd ((left : Int) + k) (show (0 : Int) < n by omega)
  have e2 := hp (((left : Int) + k) % n).toNat
  have t2 : (p (((left : Int) + k) % n).toNat - b + n).tmod n = upm n p left b k := tmod_pos (by omega)
  simp only [i_Grid_rectangle_1, c_and, c_not, t1, t2]
  simp (disch := omega) only [c_lt, c_le, c_blt, c_fits, c_neq]
/-- A round over a column of a rectangle. -/
def recF (n : Nat) (X O x : Nat → Int) (left : Nat) (b h : Int) (k : Nat) (s : Bool × (Nat → Int)) : Bool × (Nat → Int) :=
  (if 0 < k ∧ upm n x left b k < h then false else s.1,
   if upm n X left b k < h then (if upm n O left b k < h then upd (upd s.2 4 (s.2 4 + 1)) 5 (upd s.2 4 (s.2 4 + 1) 5 + 1) else upd s.2 4 (s.2 4 + 1)) else (if upm n O left b k < h then upd s.2 5 (s.2 5 + 1) else s.2))
def recS (n : Nat) (X O x : Nat → Int) (left w : Nat) : Bool × (Nat → Int) :=
  iter (recF n X O x left (x left) (upm n x left (x left) w)) w 0 (true, upd (upd (upd (upd (upd (upd (fun _ => 0) 0 (left : Int)) 1 (x left)) 2 (w : Int)) 3 (upm n x left (x left) w)) 4 0) 5 0)
theorem recF_step {n : Nat} {X O x : Nat → Int} {left : Nat} {b h : Int} {k : Nat} {s : Bool × (Nat → Int)} :
    (∀ j, j < 4 → (recF n X O x left b h k s).2 j = s.2 j) ∧ (recF n X O x left b h k s).2 4 = cntF n X left b h k (s.2 4) ∧ (recF n X O x left b h k s).2 5 = cntF n O left b h k (s.2 5) ∧ (recF n X O x left b h k s).1 = empF n x left b h k s.1 := by
  unfold recF cntF empF
  refine ⟨fun j hj => ?_, ?_, ?_, rfl⟩
  · simp only
    split <;> split <;> simp only [upd_at] <;> (repeat rw [if_neg (by omega)])
  · simp only
    split <;> split <;> simp [upd_at]
  · simp only
    split <;> split <;> simp [upd_at]
theorem recS_spec (n : Nat) (X O x : Nat → Int) (left w : Nat) : List.map (recS n X O x left w).2 (List.range 6) = rectL n X O x left w ∧ (recS n X O x left w).1 = empB n x left w := by
  have := iter_inv (f := recF n X O x left (x left) (upm n x left (x left) w)) (n := w)
    (I := fun k (s : Bool × (Nat → Int)) => s.2 0 = left ∧ s.2 1 = x left ∧ s.2 2 = w ∧ s.2 3 = upm n x left (x left) w ∧ s.2 4 = cntM n X left (x left) (upm n x left (x left) w) k ∧ s.2 5 = cntM n O left (x left) (upm n x left (x left) w) k ∧ s.1 = iter (empF n x left (x left) (upm n x left (x left) w)) k 0 true)
    (fun k s _ ⟨a0, a1, a2, a3, a4, a5, a6⟩ => by
      obtain ⟨b0, b4, b5, b6⟩ := recF_step (n := n) (X := X) (O := O) (x := x) (left := left) (b := x left) (h := upm n x left (x left) w) (k := k) (s := s)
      refine ⟨(b0 0 (by omega)).trans a0, (b0 1 (by omega)).trans a1, (b0 2 (by omega)).trans a2, (b0 3 (by omega)).trans a3, ?_, ?_, ?_⟩
      · rw [b4, cntM_succ, a4]
      · rw [b5, cntM_succ, a5]
      · rw [b6, iter_succ, a6, Nat.zero_add]) w 0 (true, upd (upd (upd (upd (upd (upd (fun _ => 0) 0 (left : Int)) 1 (x left)) 2 (w : Int)) 3 (upm n x left (x left) w)) 4 0) 5 0) (by omega)
    ⟨by simp [upd_at], by simp [upd_at], by simp [upd_at], by simp [upd_at], by simp [upd_at, cntM, iter], by simp [upd_at, cntM, iter], rfl⟩
  rw [Nat.zero_add] at this
  obtain ⟨a0, a1, a2, a3, a4, a5, a6⟩ := this
  unfold recS
  refine ⟨?_, a6⟩
  rw [map6, a0, a1, a2, a3, a4, a5]
  rfl
theorem i_Grid_rectangle_val (z : β) {N : Nat} (hN : 8 < N) {n : Nat} {X O x : Nat → Int} (h2 : 2 ≤ n) (h8 : n ≤ 8) (hX : ∀ j, 0 ≤ X j ∧ X j ≤ 255) (hO : ∀ j, 0 ≤ O j ∧ O j ≤ 255) (hx : ∀ j, 0 ≤ x j ∧ x j ≤ 255) (hp : PermP 8 n x) {left w : Nat} (hl : left < n) (hw : w < n) (k0 : (Nat → Int) → Bool → β) :
    i_Grid_rectangle z N n X O x left w k0 = k0 (recS n X O x left w).2 (recS n X O x left w).1 := by
  have e3 := hx left
  have e4 := hp.2.1 left hl
  unfold i_Grid_rectangle i_Grid_n
  simp only [c_and, Int.toNat_natCast]
  simp (disch := omega) only [c_lt, c_le, c_blt, rect_1 z N h2 h8 hx hl hw ⟨e3.1, e4⟩]
  refine up_to (L := fun m k (s : Bool × (Nat → Int)) => i_Grid_rectangle_l0 z N (upm n x left (x left) w) w n X O x left (fun _ => 0) n (x left) m s.1 (k : Int) s.2 fun q10 q11 => k0 q11 q10) (n := w) (out := fun s => k0 s.2 s.1)
    (f := recF n X O x left (x left) (upm n x left (x left) w)) (I := fun k s => (0 ≤ s.2 4 ∧ s.2 4 ≤ k) ∧ (0 ≤ s.2 5 ∧ s.2 5 ≤ k))
    (fun m k s hk hs => ⟨?_, ?_⟩) (fun m s _ => by simp (disch := omega) only [i_Grid_rectangle_l0, i_Grid_rectangle_l0_s, c_nlt]) w N 0 (true, upd (upd (upd (upd (upd (upd (fun _ => 0) 0 (left : Int)) 1 (x left)) 2 (w : Int)) 3 (upm n x left (x left) w)) 4 0) 5 0) (by omega) (by omega) (by simp [upd_at])
  · have hkn : k < n := by omega
    obtain ⟨s1, s2⟩ := s
    simp only at hs
    have e5 : upd s2 4 (s2 4 + 1) 5 = s2 5 := by simp [upd_at]
    simp only [i_Grid_rectangle_l0, i_Grid_rectangle_l0_s, rect_1 z N h2 h8 hx hl hkn ⟨e3.1, e4⟩, rect_1 z N h2 h8 hX hl hkn ⟨e3.1, e4⟩, rect_1 z N h2 h8 hO hl hkn ⟨e3.1, e4⟩, recF, e5]
    rw [c_lt (by omega)]
    by_cases a1 : 0 < k <;> by_cases a2 : upm n x left (x left) k < upm n x left (x left) w <;> by_cases a3 : upm n X left (x left) k < upm n x left (x left) w <;> by_cases a4 : upm n O left (x left) k < upm n x left (x left) w <;>
      (simp (disch := omega) only [c_lt, c_nlt, c_fits, a1, a2, a3, a4, and_self, and_true, and_false, false_and, true_and, reduceIte]; rfl)
  · obtain ⟨_, b4, b5, _⟩ := recF_step (n := n) (X := X) (O := O) (x := x) (left := left) (b := x left) (h := upm n x left (x left) w) (k := k) (s := s)
    rw [b4, b5]
    unfold cntF
    split <;> split <;> omega
/-- The rectangles of the program. -/
theorem i_Grid_rectangles_val (z : β) {N : Nat} (hN : 8 < N) {n : Nat} {X O x : Nat → Int} (h2 : 2 ≤ n) (h8 : n ≤ 8) (hX : ∀ j, 0 ≤ X j ∧ X j ≤ 255) (hO : ∀ j, 0 ≤ O j ∧ O j ≤ 255) (hx : ∀ j, 0 ≤ x j ∧ x j ≤ 255) (hp : PermP 8 n x) (ea : Bool) (k0 : Nat → Nat → Nat → List Int → β) :
    i_Grid_rectangles z N n X O x ea k0 = k0 (rectsL n X O x fun l w => empB n x l w || !ea).length ((rectsL n X O x fun l w => empB n x l w || !ea).length / 6) ((rectsL n X O x fun l w => empB n x l w || !ea).length / 6) (rectsL n X O x fun l w => empB n x l w || !ea) := by
  unfold i_Grid_rectangles i_Grid_n
  refine up_to (L := fun m i (l : List Int) => i_Grid_rectangles_l0 z N ea n n X O x m l.length (l.length / 6) (l.length / 6) (i : Int) l k0) (n := n) (out := fun l => k0 l.length (l.length / 6) (l.length / 6) l)
    (f := fun left l => iter (fun w l => if (empB n x left w || !ea) = true then l ++ rectL n X O x left w else l) (n - 1) 1 l) (I := fun i l => l.length % 6 = 0 ∧ l.length ≤ 48 * i)
    (fun m i l hi hl => ⟨?_, ?_⟩) (fun m s _ => by simp (disch := omega) only [i_Grid_rectangles_l0, i_Grid_rectangles_l0_s, c_nlt]) n N 0 [] (by omega) (by omega) ⟨rfl, by simp⟩
  · have inner : ∀ kk : Nat → Nat → Nat → List Int → β, i_Grid_rectangles_l1 z N ea i n i n X O x N l.length (l.length / 6) (l.length / 6) 1 l kk =
        kk (iter (fun w l => if (empB n x i w || !ea) = true then l ++ rectL n X O x i w else l) (n - 1) 1 l).length ((iter (fun w l => if (empB n x i w || !ea) = true then l ++ rectL n X O x i w else l) (n - 1) 1 l).length / 6) ((iter (fun w l => if (empB n x i w || !ea) = true then l ++ rectL n X O x i w else l) (n - 1) 1 l).length / 6) (iter (fun w l => if (empB n x i w || !ea) = true then l ++ rectL n X O x i w else l) (n - 1) 1 l) := by
      intro kk
      refine up_to (L := fun m w (l : List Int) => i_Grid_rectangles_l1 z N ea i n i n X O x m l.length (l.length / 6) (l.length / 6) (w : Int) l kk) (n := n) (out := fun l => kk l.length (l.length / 6) (l.length / 6) l)
        (f := fun w l => if (empB n x i w || !ea) = true then l ++ rectL n X O x i w else l) (I := fun w l => l.length % 6 = 0 ∧ l.length ≤ 48 * i + 6 * w)
        (fun m w l hw hl => ⟨show i_Grid_rectangles_l1 z N ea i n i n X O x (m + 1) l.length (l.length / 6) (l.length / 6) (w : Int) l kk = i_Grid_rectangles_l1 z N ea i n i n X O x m (if (empB n x i w || !ea) = true then l ++ rectL n X O x i w else l).length ((if (empB n x i w || !ea) = true then l ++ rectL n X O x i w else l).length / 6) ((if (empB n x i w || !ea) = true then l ++ rectL n X O x i w else l).length / 6) ((w + 1 : Nat) : Int) (if (empB n x i w || !ea) = true then l ++ rectL n X O x i w else l) kk from ?_, ?_⟩) (fun m s _ => by simp (disch := omega) only [i_Grid_rectangles_l1, i_Grid_rectangles_l1_s, i_Grid_n, c_nlt]) (n - 1) N 1 l (by omega) (by omega) (by omega)
      · obtain ⟨q1, q2⟩ := recS_spec n X O x i w
        have e6 : (l ++ rectL n X O x i w).length = l.length + 6 := by rw [List.length_append, rectL_len]
        simp only [i_Grid_rectangles_l1, i_Grid_rectangles_l1_s, i_Grid_n, i_Grid_rectangle_val z hN h2 h8 hX hO hx hp hi hw, q1, q2, c_and, c_true]
        rw [c_lt (by omega)]
        cases empB n x i w <;> cases ea <;>
          (simp (disch := omega) only [c_true, c_false, Bool.not_true, Bool.not_false, Bool.or_true, Bool.or_false, Bool.true_or, Bool.false_or, reduceIte, c_fits, c_beq, c_ble, c_nble, e6, show (l.length + 6) / 6 = l.length / 6 + 1 by omega, Bool.false_eq_true]; try rfl)
      · split
        · rw [List.length_append, rectL_len]; omega
        · omega
    simp only [i_Grid_rectangles_l0, i_Grid_rectangles_l0_s, inner]
    simp (disch := omega) only [c_lt, c_fits]
    rfl
  · have := rects_inner (n := n) (X := X) (O := O) (x := x) (t := fun l w => empB n x l w || !ea) (left := i) hl h2
    omega
end
end Go.AM
