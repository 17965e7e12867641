/- A part of a proof about the given program: an abstract machine, what the given functions come to, and plain laws. -/
import Derived.Test.YtijijnfmcmeioaaDIsMosaic
set_option maxRecDepth 100000
namespace Go.AM
/-- spec.CountTiles, loop -/
def s_CountTiles_l0_s {β : Type} (z : β) (h0_0 : Int) (h0_1 : Nat → Int) (k : Int) (h1 : Nat → Int) (kn : Int → (Nat → Int) → β) (k0 : (Nat → Int) → β) : β :=
  cond (fits IntKind.i64 (h0_0 * h0_0)) (cond (decide (k < h0_0 * h0_0)) (cond (decide (0 ≤ k) && decide (k < (↑64 : Int))) (cond (k.toNat.blt 64) (cond (decide (0 ≤ h0_1 k.toNat) && decide (h0_1 k.toNat < (↑8 : Int))) (cond ((h0_1 k.toNat).toNat.blt 8) (cond (fits IntKind.i64 (h1 (h0_1 k.toNat).toNat + 1)) (cond (decide (0 ≤ h0_1 k.toNat) && decide (h0_1 k.toNat < (↑8 : Int))) (cond ((h0_1 k.toNat).toNat.blt 8) (cond (fits IntKind.i64 (k + 1)) (kn (k + 1) (upd h1 (h0_1 k.toNat).toNat (h1 (h0_1 k.toNat).toNat + 1))) (z)) (z)) (z)) (z)) (z)) (z)) (z)) (z)) (k0 h1)) (z)
def s_CountTiles_l0 {β : Type} (z : β) (h0_0 : Int) (h0_1 : Nat → Int) : Nat → Int → (Nat → Int) → ((Nat → Int) → β) → β
  | 0, _, _, _ => z
  | m + 1, k, h1, k0 => s_CountTiles_l0_s z h0_0 h0_1 k h1 (fun k h1 => s_CountTiles_l0 z h0_0 h0_1 m k h1 k0) k0

/-- spec.CountTiles -/
def s_CountTiles {β : Type} (z : β) (N : Nat) (m_0 : Int) (m_1 : Nat → Int) (k0 : Int → β) (k1 : Int → (Nat → Int) → β) : β :=
  s_l09Is z N m_0 m_1 (fun q5 => cond (!q5) (k0 1) (s_CountTiles_l0 z m_0 m_1 N 0 (fun (x : Nat) => 0) (fun q6 => k1 0 q6)))

/-- impl.CountTiles, loop -/
def i_CountTiles_l0_s {β : Type} (z : β) (t17_n : Nat) (t17_l : Nat) (t17_c : Nat) (t18 : Int) (h0_0 : Int) (h0_1 : Nat → Int) (t19 : Int) (h1 : Nat → Int) (kn : Int → (Nat → Int) → β) (k0 : (Nat → Int) → β) : β :=
  cond (decide (t19 < t18)) (cond (t17_n.beq 64 && (decide (0 ≤ t19) && decide (t19 < (↑t17_l : Int)))) (cond (t17_n.beq 64 && t19.toNat.blt 64) (cond (decide (0 ≤ h0_1 t19.toNat) && decide (h0_1 t19.toNat < (↑8 : Int))) (cond ((h0_1 t19.toNat).toNat.blt 8) (cond (fits IntKind.i64 (h1 (h0_1 t19.toNat).toNat + 1)) (cond (decide (0 ≤ h0_1 t19.toNat) && decide (h0_1 t19.toNat < (↑8 : Int))) (cond ((h0_1 t19.toNat).toNat.blt 8) (cond (fits IntKind.i64 (t19 + 1)) (kn (t19 + 1) (upd h1 (h0_1 t19.toNat).toNat (h1 (h0_1 t19.toNat).toNat + 1))) (z)) (z)) (z)) (z)) (z)) (z)) (z)) (z)) (k0 h1)
def i_CountTiles_l0 {β : Type} (z : β) (t17_n : Nat) (t17_l : Nat) (t17_c : Nat) (t18 : Int) (h0_0 : Int) (h0_1 : Nat → Int) : Nat → Int → (Nat → Int) → ((Nat → Int) → β) → β
  | 0, _, _, _ => z
  | m + 1, t19, h1, k0 => i_CountTiles_l0_s z t17_n t17_l t17_c t18 h0_0 h0_1 t19 h1 (fun t19 h1 => i_CountTiles_l0 z t17_n t17_l t17_c t18 h0_0 h0_1 m t19 h1 k0) k0

/-- impl.CountTiles -/
def i_CountTiles {β : Type} (z : β) (N : Nat) (m_0 : Int) (m_1 : Nat → Int) (k0 : Int → β) (k1 : Int → (Nat → Int) → β) : β :=
  i_IsMosaic z N m_0 m_1 (fun q5 => cond (!q5) (k0 1) (cond (fits IntKind.i64 (m_0 * m_0)) (cond (decide (0 ≤ m_0 * m_0) && decide (m_0 * m_0 ≤ (↑64 : Int)) && true) (cond (((m_0 * m_0).toNat - 0).ble 9223372036854775807) (i_CountTiles_l0 z 64 ((m_0 * m_0).toNat - 0) 64 (↑((m_0 * m_0).toNat - 0) : Int) m_0 m_1 N 0 (fun (x : Nat) => 0) (fun q6 => k1 0 q6)) (z)) (z)) (z)))

/-- laws.eqInt64S, loop -/
def w_eqInt64S_l0_s {β : Type} (z : β) (i : Int)  (kn : β) (k0 : β) : β :=
  cond (decide (i < 0)) (z) (k0)
def w_eqInt64S_l0 {β : Type} (z : β) (i : Int) : Nat → β → β
  | 0, _ => z
  | m + 1, k0 => w_eqInt64S_l0_s z i (w_eqInt64S_l0 z i m k0) k0

/-- laws.eqInt64S -/
def w_eqInt64S {β : Type} (z : β) (N : Nat)  (k0 : Bool → β) : β :=
  w_eqInt64S_l0 z 0 N (k0 true)

/-- laws.markInt64S, loop -/
def w_markInt64S_l0_s {β : Type} (z : β) (k : Int) (i : Int)  (kn : β) (k0 : β) : β :=
  cond (decide (i < 0)) (z) (k0)
def w_markInt64S_l0 {β : Type} (z : β) (k : Int) (i : Int) : Nat → β → β
  | 0, _ => z
  | m + 1, k0 => w_markInt64S_l0_s z k i (w_markInt64S_l0 z k i m k0) k0

/-- laws.markInt64S -/
def w_markInt64S {β : Type} (z : β) (N : Nat) (k : Int) (k0 : β) : β :=
  w_markInt64S_l0 z k 0 N k0

/-- laws.heldInt64S, loop -/
def w_heldInt64S_l0_s {β : Type} (z : β) (k : Int) (i : Int)  (kn : β) (k0 : β) : β :=
  cond (decide (i < 0)) (z) (k0)
def w_heldInt64S_l0 {β : Type} (z : β) (k : Int) (i : Int) : Nat → β → β
  | 0, _ => z
  | m + 1, k0 => w_heldInt64S_l0_s z k i (w_heldInt64S_l0 z k i m k0) k0

/-- laws.heldInt64S -/
def w_heldInt64S {β : Type} (z : β) (N : Nat) (k : Int) (k0 : β) : β :=
  w_heldInt64S_l0 z k 0 N k0

/-- laws.eqInt64S, loop -/
def w_eqInt64S_l0_s6_s {β : Type} (z : β) (a_n : Nat) (a_l : Nat) (a_c : Nat) (i : Int) (h0_n : Nat) (h0 : Nat → Int)  (kn : β) (k0 : β) : β :=
  cond (a_l.ble 9223372036854775807) (cond (decide (i < (↑a_l : Int))) (cond (a_n.beq h0_n && (decide (0 ≤ i) && decide (i < (↑a_l : Int)))) (cond (a_n.beq h0_n && i.toNat.blt h0_n) (z) (z)) (z)) (k0)) (z)
def w_eqInt64S_l0_s6 {β : Type} (z : β) (a_n : Nat) (a_l : Nat) (a_c : Nat) (i : Int) (h0_n : Nat) (h0 : Nat → Int) : Nat → β → β
  | 0, _ => z
  | m + 1, k0 => w_eqInt64S_l0_s6_s z a_n a_l a_c i h0_n h0 (w_eqInt64S_l0_s6 z a_n a_l a_c i h0_n h0 m k0) k0

/-- laws.eqInt64S -/
def w_eqInt64S_s8 {β : Type} (z : β) (N : Nat) (a_n : Nat) (a_l : Nat) (a_c : Nat) (h0_n : Nat) (h0 : Nat → Int) (k0 : Bool → β) : β :=
  cond (a_l.ble 9223372036854775807) (cond ((↑a_l : Int) != 0) (k0 false) (w_eqInt64S_l0_s6 z a_n a_l a_c 0 h0_n h0 N (k0 true))) (z)

/-- laws.markInt64S, loop -/
def w_markInt64S_l0_s4_s {β : Type} (z : β) (a_n : Nat) (a_l : Nat) (a_c : Nat) (h0_n : Nat) (k : Int) (i : Int) (h0 : Nat → Int) (kn : Int → Int → (Nat → Int) → β) (k0 : Int → (Nat → Int) → β) : β :=
  cond (a_l.ble 9223372036854775807) (cond (decide (i < (↑a_l : Int))) (cond (a_n.beq h0_n && (decide (0 ≤ i) && decide (i < (↑a_l : Int)))) (cond (a_n.beq h0_n && i.toNat.blt h0_n) (cond (fits IntKind.i64 (k + 1)) (cond (fits IntKind.i64 (i + 1)) (kn (k + 1) (i + 1) (upd h0 i.toNat k)) (z)) (z)) (z)) (z)) (k0 k h0)) (z)
def w_markInt64S_l0_s4 {β : Type} (z : β) (a_n : Nat) (a_l : Nat) (a_c : Nat) (h0_n : Nat) : Nat → Int → Int → (Nat → Int) → (Int → (Nat → Int) → β) → β
  | 0, _, _, _, _ => z
  | m + 1, k, i, h0, k0 => w_markInt64S_l0_s4_s z a_n a_l a_c h0_n k i h0 (fun k i h0 => w_markInt64S_l0_s4 z a_n a_l a_c h0_n m k i h0 k0) k0

/-- laws.markInt64S -/
def w_markInt64S_s4 {β : Type} (z : β) (N : Nat) (a_n : Nat) (a_l : Nat) (a_c : Nat) (k : Int) (h0_n : Nat) (h0 : Nat → Int) (k0 : Int → (Nat → Int) → β) : β :=
  w_markInt64S_l0_s4 z a_n a_l a_c h0_n N k 0 h0 (fun q9 q10 => k0 q9 q10)

/-- laws.heldInt64S, loop -/
def w_heldInt64S_l0_s4_s {β : Type} (z : β) (a_n : Nat) (a_l : Nat) (a_c : Nat) (h0_n : Nat) (h0 : Nat → Int) (k : Int) (i : Int) (kn : Int → Int → β) (k0 : β) (k1 : Int → β) : β :=
  cond (a_l.ble 9223372036854775807) (cond (decide (i < (↑a_l : Int))) (cond (a_n.beq h0_n && (decide (0 ≤ i) && decide (i < (↑a_l : Int)))) (cond (a_n.beq h0_n && i.toNat.blt h0_n) (cond (h0 i.toNat != k) (k0) (cond (fits IntKind.i64 (k + 1)) (cond (fits IntKind.i64 (i + 1)) (kn (k + 1) (i + 1)) (z)) (z))) (z)) (z)) (k1 k)) (z)
def w_heldInt64S_l0_s4 {β : Type} (z : β) (a_n : Nat) (a_l : Nat) (a_c : Nat) (h0_n : Nat) (h0 : Nat → Int) : Nat → Int → Int → β → (Int → β) → β
  | 0, _, _, _, _ => z
  | m + 1, k, i, k0, k1 => w_heldInt64S_l0_s4_s z a_n a_l a_c h0_n h0 k i (fun k i => w_heldInt64S_l0_s4 z a_n a_l a_c h0_n h0 m k i k0 k1) k0 k1

/-- laws.heldInt64S -/
def w_heldInt64S_s4 {β : Type} (z : β) (N : Nat) (a_n : Nat) (a_l : Nat) (a_c : Nat) (k : Int) (h0_n : Nat) (h0 : Nat → Int) (k0 : Int → β) : β :=
  w_heldInt64S_l0_s4 z a_n a_l a_c h0_n h0 N k 0 (k0 (-1)) (fun q9 => k0 q9)

/-- laws.eqInt64S, loop -/
def w_eqInt64S_l0_s7_s {β : Type} (z : β) (b_n : Nat) (b_l : Nat) (b_c : Nat) (i : Int) (h0_n : Nat) (h0 : Nat → Int)  (kn : β) (k0 : β) : β :=
  cond (decide (i < 0)) (z) (k0)
def w_eqInt64S_l0_s7 {β : Type} (z : β) (b_n : Nat) (b_l : Nat) (b_c : Nat) (i : Int) (h0_n : Nat) (h0 : Nat → Int) : Nat → β → β
  | 0, _ => z
  | m + 1, k0 => w_eqInt64S_l0_s7_s z b_n b_l b_c i h0_n h0 (w_eqInt64S_l0_s7 z b_n b_l b_c i h0_n h0 m k0) k0

/-- laws.eqInt64S -/
def w_eqInt64S_s9 {β : Type} (z : β) (N : Nat) (b_n : Nat) (b_l : Nat) (b_c : Nat) (h0_n : Nat) (h0 : Nat → Int) (k0 : Bool → β) : β :=
  cond (b_l.ble 9223372036854775807) (cond (0 != (↑b_l : Int)) (k0 false) (w_eqInt64S_l0_s7 z b_n b_l b_c 0 h0_n h0 N (k0 true))) (z)

/-- laws.eqInt64S, loop -/
def w_eqInt64S_l0_s8_s {β : Type} (z : β) (a_n : Nat) (a_l : Nat) (a_c : Nat) (b_n : Nat) (b_l : Nat) (b_c : Nat) (h0_n : Nat) (h0 : Nat → Int) (h1_n : Nat) (h1 : Nat → Int) (i : Int) (kn : Int → β) (k0 : β) (k1 : β) : β :=
  cond (a_l.ble 9223372036854775807) (cond (decide (i < (↑a_l : Int))) (cond (a_n.beq h0_n && (decide (0 ≤ i) && decide (i < (↑a_l : Int)))) (cond (a_n.beq h0_n && i.toNat.blt h0_n) (cond (b_n.beq h1_n && (decide (0 ≤ i) && decide (i < (↑b_l : Int)))) (cond (b_n.beq h1_n && i.toNat.blt h1_n) (cond (h0 i.toNat != h1 i.toNat) (k0) (cond (fits IntKind.i64 (i + 1)) (kn (i + 1)) (z))) (z)) (z)) (z)) (z)) (k1)) (z)
def w_eqInt64S_l0_s8 {β : Type} (z : β) (a_n : Nat) (a_l : Nat) (a_c : Nat) (b_n : Nat) (b_l : Nat) (b_c : Nat) (h0_n : Nat) (h0 : Nat → Int) (h1_n : Nat) (h1 : Nat → Int) : Nat → Int → β → β → β
  | 0, _, _, _ => z
  | m + 1, i, k0, k1 => w_eqInt64S_l0_s8_s z a_n a_l a_c b_n b_l b_c h0_n h0 h1_n h1 i (fun i => w_eqInt64S_l0_s8 z a_n a_l a_c b_n b_l b_c h0_n h0 h1_n h1 m i k0 k1) k0 k1

/-- laws.eqInt64S -/
def w_eqInt64S_s10 {β : Type} (z : β) (N : Nat) (a_n : Nat) (a_l : Nat) (a_c : Nat) (b_n : Nat) (b_l : Nat) (b_c : Nat) (h0_n : Nat) (h0 : Nat → Int) (h1_n : Nat) (h1 : Nat → Int) (k0 : Bool → β) : β :=
  cond (a_l.ble 9223372036854775807) (cond (b_l.ble 9223372036854775807) (cond ((↑a_l : Int) != (↑b_l : Int)) (k0 false) (w_eqInt64S_l0_s8 z a_n a_l a_c b_n b_l b_c h0_n h0 h1_n h1 N 0 (k0 false) (k0 true))) (z)) (z)

/-- laws.FnExactCountTiles -/
def w_FnExactCountTiles {β : Type} (z : β) (N : Nat) (aM_0 : Int) (aM_1 : Nat → Int) (k0 : Bool → β) : β :=
  w_toMosaic z N aM_0 aM_1 (fun q5 => s_CountTiles z N aM_0 q5 (fun q6 => w_toMosaic z N aM_0 aM_1 (fun q7 => i_CountTiles z N aM_0 q7 (fun q8 => w_eqInt64S z N (fun q9 => cond (!q9) (k0 false) (cond (q8 != q6) (k0 false) (w_markInt64S z N 1 (w_heldInt64S z N 1 (w_toMosaic z N aM_0 aM_1 (fun q10 => i_CountTiles z N aM_0 q10 (fun q11 => w_eqInt64S z N (fun q12 => cond (!q12) (k0 false) (cond (q11 != q6) (k0 false) (w_heldInt64S z N 1 (k0 true))))) (fun q11 q12 => w_eqInt64S_s8 z N 8 8 8 8 q12 (fun q13 => cond (!q13) (k0 false) (cond (q11 != q6) (k0 false) (w_heldInt64S z N 1 (k0 true)))))))))))) (fun q8 q9 => w_eqInt64S_s8 z N 8 8 8 8 q9 (fun q10 => cond (!q10) (k0 false) (cond (q8 != q6) (k0 false) (w_markInt64S_s4 z N 8 8 8 1 8 q9 (fun q11 q12 => w_heldInt64S_s4 z N 8 8 8 1 8 q12 (fun q13 => cond (decide (q13 < 0)) (k0 false) (cond (q13 != q11) (k0 false) (w_toMosaic z N aM_0 aM_1 (fun q14 => i_CountTiles z N aM_0 q14 (fun q15 => w_eqInt64S z N (fun q16 => cond (!q16) (k0 false) (cond (q15 != q6) (k0 false) (w_heldInt64S_s4 z N 8 8 8 1 8 q12 (fun q17 => cond (decide (q17 < 0)) (k0 false) (cond (q17 != q11) (k0 false) (k0 true))))))) (fun q15 q16 => w_eqInt64S_s8 z N 8 8 8 8 q16 (fun q17 => cond (!q17) (k0 false) (cond (q15 != q6) (k0 false) (w_heldInt64S_s4 z N 8 8 8 1 8 q12 (fun q18 => cond (decide (q18 < 0)) (k0 false) (cond (q18 != q11) (k0 false) (k0 true)))))))))))))))))) (fun q6 q7 => w_toMosaic z N aM_0 aM_1 (fun q8 => i_CountTiles z N aM_0 q8 (fun q9 => w_eqInt64S_s9 z N 8 8 8 8 q7 (fun q10 => cond (!q10) (k0 false) (cond (q9 != q6) (k0 false) (w_markInt64S z N 1 (w_heldInt64S z N 1 (w_toMosaic z N aM_0 aM_1 (fun q11 => i_CountTiles z N aM_0 q11 (fun q12 => w_eqInt64S_s9 z N 8 8 8 8 q7 (fun q13 => cond (!q13) (k0 false) (cond (q12 != q6) (k0 false) (w_heldInt64S z N 1 (k0 true))))) (fun q12 q13 => w_eqInt64S_s10 z N 8 8 8 8 8 8 8 q13 8 q7 (fun q14 => cond (!q14) (k0 false) (cond (q12 != q6) (k0 false) (w_heldInt64S z N 1 (k0 true)))))))))))) (fun q9 q10 => w_eqInt64S_s10 z N 8 8 8 8 8 8 8 q10 8 q7 (fun q11 => cond (!q11) (k0 false) (cond (q9 != q6) (k0 false) (w_markInt64S_s4 z N 8 8 8 1 8 q10 (fun q12 q13 => w_heldInt64S_s4 z N 8 8 8 1 8 q13 (fun q14 => cond (decide (q14 < 0)) (k0 false) (cond (q14 != q12) (k0 false) (w_toMosaic z N aM_0 aM_1 (fun q15 => i_CountTiles z N aM_0 q15 (fun q16 => w_eqInt64S_s9 z N 8 8 8 8 q7 (fun q17 => cond (!q17) (k0 false) (cond (q16 != q6) (k0 false) (w_heldInt64S_s4 z N 8 8 8 1 8 q13 (fun q18 => cond (decide (q18 < 0)) (k0 false) (cond (q18 != q12) (k0 false) (k0 true))))))) (fun q16 q17 => w_eqInt64S_s10 z N 8 8 8 8 8 8 8 q17 8 q7 (fun q18 => cond (!q18) (k0 false) (cond (q16 != q6) (k0 false) (w_heldInt64S_s4 z N 8 8 8 1 8 q13 (fun q19 => cond (decide (q19 < 0)) (k0 false) (cond (q19 != q12) (k0 false) (k0 true)))))))))))))))))))
end Go.AM
