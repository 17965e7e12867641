/- A part of a proof about the given program: an abstract machine, what the given functions come to, and plain laws. -/
import Derived.Test.YtijijnfmcmeioaaPCorners
import Derived.Test.YtijijnfmcmeioaaDCountCusps
namespace Go.AM
section
variable {β : Type}
/-- A walk that sets cells until it comes to one that is set. -/
def walkH (nxt : Nat → Nat) (c : Int) : Nat → Nat → (Nat → Int) → Nat → Int
  | 0, _, h => h
  | d + 1, k, h => if h k < 0 then walkH nxt c d (nxt k) (upd h k c) else h
/-- How many cells are not set. -/
def cntU (n : Nat) (h : Nat → Int) : Nat := (List.range n).countP fun j => decide (h j < 0)
theorem cntU_le (n : Nat) (h : Nat → Int) : cntU n h ≤ n := by
  have := List.countP_le_length (p := fun j => decide (h j < 0)) (l := List.range n)
  simpa [cntU] using this
theorem cntU_zero {n : Nat} {h : Nat → Int} (e : cntU n h = 0) {k : Nat} (hk : k < n) : 0 ≤ h k := by
  unfold cntU at e
  rw [List.countP_eq_zero] at e
  have := e k (by simpa using hk)
  simpa using this
theorem cntU_upd {n : Nat} {h : Nat → Int} {k : Nat} (hk : k < n) (hu : h k < 0) {c : Int} (hc : 0 ≤ c) : cntU n (upd h k c) + 1 ≤ cntU n h := by
  unfold cntU
  have key : ∀ (l : List Nat), k ∈ l → (l.countP fun j => decide (upd h k c j < 0)) + 1 ≤ l.countP fun j => decide (h j < 0) := by
    intro l
    have hle : ∀ l : List Nat, (l.countP fun j => decide (upd h k c j < 0)) ≤ l.countP fun j => decide (h j < 0) := fun l =>
      List.countP_mono_left fun j _ hj => by
        rw [decide_eq_true_eq, upd_at] at hj
        split at hj
        · omega
        · simpa using hj
    induction l with
    | nil => intro h; simp at h
    | cons x xs ih =>
      intro hm
      rw [List.countP_cons, List.countP_cons]
      by_cases e : x = k
      · subst e
        have := hle xs
        rw [decide_eq_false (show ¬ upd h x c x < 0 by rw [upd_at, if_pos rfl]; omega), decide_eq_true hu]
        simp
        exact this
      · have := ih (by simpa [Ne.symm e] using hm)
        rw [show upd h k c x = h x by rw [upd_at, if_neg e]]
        omega
  exact key _ (by simpa using hk)
/-- A loop that walks. -/
theorem walk_loop {L : Nat → Nat → (Nat → Int) → β} {out : (Nat → Int) → β} {n : Nat} {nxt : Nat → Nat} {c : Int} (hc : 0 ≤ c) (hn : ∀ k, k < n → nxt k < n) {I : (Nat → Int) → Prop}
    (hI : ∀ k h, k < n → I h → h k < 0 → I (upd h k c))
    (h1 : ∀ m k h, k < n → I h → h k < 0 → L (m + 1) k h = L m (nxt k) (upd h k c)) (h2 : ∀ m k h, k < n → I h → 0 ≤ h k → L (m + 1) k h = out h) :
    ∀ (d m k : Nat) (h : Nat → Int), cntU n h ≤ d → d < m → k < n → I h → L m k h = out (walkH nxt c d k h) := by
  intro d
  induction d with
  | zero =>
    intro m k h hd hm hk hi
    obtain ⟨m, rfl⟩ : ∃ m', m = m' + 1 := ⟨m - 1, by omega⟩
    exact h2 m k h hk hi (cntU_zero (by omega) hk)
  | succ d ih =>
    intro m k h hd hm hk hi
    obtain ⟨m, rfl⟩ : ∃ m', m = m' + 1 := ⟨m - 1, by omega⟩
    simp only [walkH]
    by_cases hu : h k < 0
    · rw [if_pos hu, h1 m k h hk hi hu]
      have := cntU_upd hk hu hc
      exact ih m (nxt k) _ (by omega) (by omega) (hn k hk) (hI k h hk hi hu)
    · rw [if_neg hu]
      exact h2 m k h hk hi (by omega)
theorem walkH_val (nxt : Nat → Nat) (c : Int) : ∀ (d k : Nat) (h : Nat → Int) (j : Nat), walkH nxt c d k h j = h j ∨ (h j < 0 ∧ walkH nxt c d k h j = c) := by
  intro d
  induction d with
  | zero => exact fun k h j => .inl rfl
  | succ d ih =>
    intro k h j
    simp only [walkH]
    split
    · rename_i hu
      rcases ih (nxt k) (upd h k c) j with e | ⟨e1, e2⟩
      · rw [e, upd_at]
        split
        · rename_i hj; subst hj; exact .inr ⟨hu, rfl⟩
        · exact .inl rfl
      · rw [upd_at] at e1
        split at e1
        · rename_i hj; subst hj; exact .inr ⟨hu, e2⟩
        · exact .inr ⟨e1, e2⟩
    · exact .inl rfl
theorem walkH_start (nxt : Nat → Nat) {c : Int} (hc : 0 ≤ c) (d k : Nat) (h : Nat → Int) : 0 ≤ walkH nxt c (d + 1) k h k := by
  simp only [walkH]
  split
  · rcases walkH_val nxt c d (nxt k) (upd h k c) k with e | ⟨_, e⟩
    · rw [e, upd_at, if_pos rfl]; exact hc
    · rw [e]; exact hc
  · omega
theorem walkH_lt {nxt : Nat → Nat} {c : Int} {n : Nat} (hn : ∀ k, k < n → nxt k < n) : ∀ (d k : Nat) (h : Nat → Int), k < n → ∀ j, n ≤ j → walkH nxt c d k h j = h j := by
  intro d
  induction d with
  | zero => exact fun k h _ j _ => rfl
  | succ d ih =>
    intro k h hk j hj
    simp only [walkH]
    split
    · rw [ih _ _ (hn k hk) j hj, upd_at, if_neg (by omega)]
    · rfl
/-- The numbers of the components of all columns, and how many there are. -/
def compF (nxt : Nat → Nat) (n i : Nat) (s : (Nat → Int) × Int) : (Nat → Int) × Int := if s.1 i < 0 then (walkH nxt s.2 n i s.1, s.2 + 1) else s
def compS (nxt : Nat → Nat) (n : Nat) : (Nat → Int) × Int := iter (compF nxt n) n 0 ((fun j => if j < 8 then -1 else 0), 0)
structure CompI (n i : Nat) (s : (Nat → Int) × Int) : Prop where
  nn : 0 ≤ s.2
  le : s.2 ≤ i
  set : ∀ j, j < i → 0 ≤ s.1 j
  bd : ∀ j, j < 8 → -1 ≤ s.1 j ∧ s.1 j < s.2 ∨ s.1 j = -1
  rest : ∀ j, n ≤ j → j < 8 → s.1 j = -1
theorem compF_step {nxt : Nat → Nat} {n i : Nat} (hn : ∀ k, k < n → nxt k < n) (hi : i < n) {s : (Nat → Int) × Int} (h : CompI n i s) : CompI n (i + 1) (compF nxt n i s) := by
  unfold compF
  obtain ⟨n', rfl⟩ : ∃ n', n = n' + 1 := ⟨n - 1, by omega⟩
  split
  · rename_i hu
    refine ⟨by have := h.nn; simp only; omega, by have := h.le; simp only; omega, fun j hj => ?_, fun j hj => ?_, fun j h1 h2 => ?_⟩
    · simp only
      by_cases e : j = i
      · subst e; exact walkH_start nxt h.nn n' j s.1
      · rcases walkH_val nxt s.2 (n' + 1) i s.1 j with e2 | ⟨_, e2⟩
        · rw [e2]; exact h.set j (by omega)
        · rw [e2]; exact h.nn
    · simp only
      have h1 := h.bd j hj
      have h2 := h.nn
      rcases walkH_val nxt s.2 (n' + 1) i s.1 j with e2 | ⟨_, e2⟩
      · rw [e2]; omega
      · rw [e2]; omega
    · simp only
      rw [walkH_lt hn _ _ _ hi j h1]
      exact h.rest j h1 h2
  · rename_i hu
    refine ⟨h.nn, by have := h.le; omega, fun j hj => ?_, h.bd, h.rest⟩
    by_cases e : j = i
    · subst e; omega
    · exact h.set j (by omega)
theorem compS_inv {nxt : Nat → Nat} {n : Nat} (hn : ∀ k, k < n → nxt k < n) : CompI n n (compS nxt n) := by
  have := iter_inv (f := compF nxt n) (I := fun i s => CompI n i s) (n := n) (fun i s hi h => compF_step hn hi h) n 0 ((fun j => if j < 8 then -1 else 0), 0) (by omega)
    ⟨Int.le_refl _, Int.le_refl _, fun j hj => by omega, fun j hj => by simp [hj], fun j _ hj => by simp [hj]⟩
  rwa [Nat.zero_add] at this
/-- The column behind a column. -/
noncomputable def nxtC (n : Nat) (X O : Nat → Int) (i : Nat) : Nat := rowOf n X (O i).toNat
theorem nxtC_lt {n : Nat} {X O : Nat → Int} (g : GridP n X O) (hX : ∀ j, 0 ≤ X j) (hO : ∀ j, 0 ≤ O j) : ∀ k, k < n → nxtC n X O k < n := fun k hk => by
  have o1 := g.po.2.1 k hk
  have o2 := hO k
  exact (rowOf_spec g.px hX (by omega)).1
theorem s_l01Follow_val (z : β) {N : Nat} (hN : 8 < N) {n : Nat} {X O : Nat → Int} (g : GridP n X O) (hX : ∀ j, 0 ≤ X j) (hO : ∀ j, 0 ≤ O j) {i : Nat} (hi : i < n) (k : Int → β) : s_l01Follow z N n X O i k = k (nxtC n X O i) := by
  have h8 := g.hi
  have o1 := g.po.2.1 i hi
  have o2 := hO i
  unfold s_l01Follow
  simp only [c_and, Int.toNat_natCast, s_l01Row_int z hN h8 g.px hX o2 o1]
  simp (disch := omega) only [c_lt, c_le, c_blt]
  rfl
theorem s_l01Components_val (z : β) {N : Nat} (hN : 8 < N) {n : Nat} {X O : Nat → Int} (g : GridP n X O) (hX : ∀ j, 0 ≤ X j) (hO : ∀ j, 0 ≤ O j) (k : (Nat → Int) → Int → β) :
    s_l01Components z N n X O k = k (compS (nxtC n X O) n).1 (compS (nxtC n X O) n).2 := by
  have h8 := g.hi
  unfold s_l01Components
  have first : ∀ kk : (Nat → Int) → β, s_l01Components_l0 z n X O (fun _ => 0) N 0 (fun _ => 0) kk = kk (fun j => if j < 8 then -1 else 0) := by
    intro kk
    refine (up_to (L := fun m i h => s_l01Components_l0 z n X O (fun _ => 0) m (i : Int) h kk) (n := 8) (out := kk) (f := fun i h => upd h i (-1)) (I := fun _ _ => True)
      (fun m i s hi _ => ⟨by
        simp only [s_l01Components_l0, s_l01Components_l0_s, c_and, Int.toNat_natCast]
        simp (disch := omega) only [c_lt, c_le, c_blt, c_fits]
        rfl, trivial⟩)
      (fun m s _ => by simp (disch := omega) only [s_l01Components_l0, s_l01Components_l0_s, c_nlt]) 8 N 0 (fun _ => 0) rfl hN trivial).trans ?_
    rw [iter_set (fun _ => (-1 : Int))]
    congr 1
    funext j
    simp
  rw [first]
  refine up_to (L := fun m i s => s_l01Components_l1 z N n X O (fun _ => 0) m s.2 (i : Int) s.1 fun q7 q8 => k q8 q7) (n := n) (out := fun s => k s.1 s.2) (f := compF (nxtC n X O) n) (I := CompI n)
    (fun m i s hi hI => ⟨?_, compF_step (nxtC_lt g hX hO) hi hI⟩) (fun m s _ => by simp (disch := omega) only [s_l01Components_l1, s_l01Components_l1_s, c_nlt]) n N 0 ((fun j => if j < 8 then -1 else 0), 0) (by omega) (by omega)
    ⟨Int.le_refl _, Int.le_refl _, fun j hj => by omega, fun j hj => by simp [hj], fun j _ hj => by simp [hj]⟩
  have h1 := hI.nn
  have h2 := hI.le
  have walk : ∀ kk : (Nat → Int) → β, s_l01Components_l2 z N s.2 i n X O (fun _ => 0) N (i : Int) s.1 kk = kk (walkH (nxtC n X O) s.2 n i s.1) := by
    intro kk
    refine walk_loop (L := fun m k h => s_l01Components_l2 z N s.2 i n X O (fun _ => 0) m (k : Int) h kk) (out := kk) (n := n) (nxt := nxtC n X O) (c := s.2) h1 (nxtC_lt g hX hO) (I := fun _ => True) (fun _ _ _ _ _ => trivial)
      (fun m k h hk _ hu => ?_) (fun m k h hk _ hu => ?_) n N i s.1 (cntU_le _ _) (by omega) hi trivial
    · simp only [s_l01Components_l2, s_l01Components_l2_s, c_and, Int.toNat_natCast, s_l01Follow_val z hN g hX hO hk]
      simp (disch := omega) only [c_lt, c_le, c_blt]
    · simp only [s_l01Components_l2, s_l01Components_l2_s, c_and, Int.toNat_natCast]
      simp (disch := omega) only [c_lt, c_nlt, c_le, c_blt]
  simp only [s_l01Components_l1, s_l01Components_l1_s, c_and, Int.toNat_natCast, walk]
  simp (disch := omega) only [c_lt, c_le, c_blt, c_fits]
  unfold compF
  by_cases hu : s.1 i < 0
  · rw [c_nle hu, if_pos hu]
    rfl
  · rw [c_le (by omega), if_neg hu]
    rfl
end
end Go.AM
