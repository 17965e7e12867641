/- A part of a proof about the given program: an abstract machine, what the given functions come to, and plain laws. -/
import Derived.Test.YtkboldcnkkolkaaMachA
set_option linter.unusedVariables false
set_option linter.unusedSimpArgs false
set_option maxRecDepth 100000
namespace Go.AM
/-- laws.toByteA64, loop -/
def w_toByteA64_l0_s {β : Type} (z : β) (h0 : Nat → Int) (h1 : Nat → Int) (i : Int) (h2 : Nat → Int) (kn : Int → (Nat → Int) → β) (k0 : (Nat → Int) → β) : β :=
  cond (decide (i < 64)) (cond (decide (0 ≤ i) && decide (i < (↑64 : Int))) (cond (i.toNat.blt 64) (cond (decide (0 ≤ i) && decide (i < (↑64 : Int))) (cond (i.toNat.blt 64) (cond (fits IntKind.i64 (i + 1)) (kn (i + 1) (upd h2 i.toNat (h0 i.toNat))) (z)) (z)) (z)) (z)) (z)) (k0 h2)
def w_toByteA64_l0 {β : Type} (z : β) (h0 : Nat → Int) (h1 : Nat → Int) : Nat → Int → (Nat → Int) → ((Nat → Int) → β) → β
  | 0, _, _, _ => z
  | m + 1, i, h2, k0 => w_toByteA64_l0_s z h0 h1 i h2 (fun i h2 => w_toByteA64_l0 z h0 h1 m i h2 k0) k0

/-- laws.toByteA64 -/
def w_toByteA64 {β : Type} (z : β) (N : Nat) (a : Nat → Int) (k0 : (Nat → Int) → β) : β :=
  w_toByteA64_l0 z a (fun (x : Nat) => 0) N 0 (fun (x : Nat) => 0) (fun q4 => k0 q4)

/-- laws.toMosaic -/
def w_toMosaic {β : Type} (z : β) (N : Nat) (a_0 : Int) (a_1 : Nat → Int) (k0 : (Nat → Int) → β) : β :=
  w_toByteA64 z N a_1 (fun q5 => k0 q5)

/-- spec.l01In -/
def s_l01In {β : Type} (z : β) (N : Nat) (n : Int) (low : Int) (high : Int) (k0 : Bool → β) : β :=
  cond (decide (low ≤ n)) (k0 (decide (n ≤ high))) (k0 false)

/-- spec.l09Is, loop -/
def s_l09Is_l0_s {β : Type} (z : β) (h0_0 : Int) (h0_1 : Nat → Int) (k : Int) (kn : Int → β) (k0 : β) (k1 : β) : β :=
  cond (decide (k < 64)) (cond (decide (0 ≤ k) && decide (k < (↑64 : Int))) (cond (k.toNat.blt 64) (cond (decide (7 < h0_1 k.toNat)) (k0) (cond (fits IntKind.i64 (h0_0 * h0_0)) (cond (decide (h0_0 * h0_0 ≤ k)) (cond (decide (0 ≤ k) && decide (k < (↑64 : Int))) (cond (k.toNat.blt 64) (cond (h0_1 k.toNat != 0) (k0) (cond (fits IntKind.i64 (k + 1)) (kn (k + 1)) (z))) (z)) (z)) (cond (fits IntKind.i64 (k + 1)) (kn (k + 1)) (z))) (z))) (z)) (z)) (k1)
def s_l09Is_l0 {β : Type} (z : β) (h0_0 : Int) (h0_1 : Nat → Int) : Nat → Int → β → β → β
  | 0, _, _, _ => z
  | m + 1, k, k0, k1 => s_l09Is_l0_s z h0_0 h0_1 k (fun k => s_l09Is_l0 z h0_0 h0_1 m k k0 k1) k0 k1

/-- spec.l09Is -/
def s_l09Is {β : Type} (z : β) (N : Nat) (m_0 : Int) (m_1 : Nat → Int) (k0 : Bool → β) : β :=
  s_l01In z N m_0 2 8 (fun q5 => cond (!q5) (k0 false) (s_l09Is_l0 z m_0 m_1 N 0 (k0 false) (k0 true)))

/-- spec.IsMosaic -/
def s_IsMosaic {β : Type} (z : β) (N : Nat) (m_0 : Int) (m_1 : Nat → Int) (k0 : Bool → β) : β :=
  s_l09Is z N m_0 m_1 (fun q5 => k0 q5)

/-- impl.within -/
def i_within {β : Type} (z : β) (N : Nat) (x : Int) (low : Int) (high : Int) (k0 : Bool → β) : β :=
  cond (decide (low ≤ x)) (k0 (decide (x ≤ high))) (k0 false)

/-- impl.IsMosaic, loop -/
def i_IsMosaic_l0_s {β : Type} (z : β) (t10 : Nat → Int) (h0_0 : Int) (h0_1 : Nat → Int) (t11 : Int) (kn : Int → β) (k0 : β) (k1 : β) : β :=
  cond (decide (t11 < 64)) (cond (decide (0 ≤ t11) && decide (t11 < (↑64 : Int))) (cond (t11.toNat.blt 64) (cond (decide (8 ≤ t10 t11.toNat)) (k0) (cond (fits IntKind.i64 (h0_0 * h0_0)) (cond (decide (h0_0 * h0_0 ≤ t11)) (cond (t10 t11.toNat != 0) (k0) (cond (fits IntKind.i64 (t11 + 1)) (kn (t11 + 1)) (z))) (cond (fits IntKind.i64 (t11 + 1)) (kn (t11 + 1)) (z))) (z))) (z)) (z)) (k1)
def i_IsMosaic_l0 {β : Type} (z : β) (t10 : Nat → Int) (h0_0 : Int) (h0_1 : Nat → Int) : Nat → Int → β → β → β
  | 0, _, _, _ => z
  | m + 1, t11, k0, k1 => i_IsMosaic_l0_s z t10 h0_0 h0_1 t11 (fun t11 => i_IsMosaic_l0 z t10 h0_0 h0_1 m t11 k0 k1) k0 k1

/-- impl.IsMosaic -/
def i_IsMosaic {β : Type} (z : β) (N : Nat) (m_0 : Int) (m_1 : Nat → Int) (k0 : Bool → β) : β :=
  i_within z N m_0 2 8 (fun q5 => cond (!q5) (k0 false) (i_IsMosaic_l0 z m_1 m_0 m_1 N 0 (k0 false) (k0 true)))

/-- laws.FnExactIsMosaic -/
def w_FnExactIsMosaic {β : Type} (z : β) (N : Nat) (aM_0 : Int) (aM_1 : Nat → Int) (k0 : Bool → β) : β :=
  w_toMosaic z N aM_0 aM_1 (fun q5 => s_IsMosaic z N aM_0 q5 (fun q6 => w_toMosaic z N aM_0 aM_1 (fun q7 => i_IsMosaic z N aM_0 q7 (fun q8 => cond (q8 != q6) (k0 false) (k0 true)))))
end Go.AM

set_option maxRecDepth 100000
namespace Go.AM
/-- laws.toByteA8, loop -/
def w_toByteA8_l0_s {β : Type} (z : β) (h0 : Nat → Int) (h1 : Nat → Int) (i : Int) (h2 : Nat → Int) (kn : Int → (Nat → Int) → β) (k0 : (Nat → Int) → β) : β :=
  cond (decide (i < 8)) (cond (decide (0 ≤ i) && decide (i < (↑8 : Int))) (cond (i.toNat.blt 8) (cond (decide (0 ≤ i) && decide (i < (↑8 : Int))) (cond (i.toNat.blt 8) (cond (fits IntKind.i64 (i + 1)) (kn (i + 1) (upd h2 i.toNat (h0 i.toNat))) (z)) (z)) (z)) (z)) (z)) (k0 h2)
def w_toByteA8_l0 {β : Type} (z : β) (h0 : Nat → Int) (h1 : Nat → Int) : Nat → Int → (Nat → Int) → ((Nat → Int) → β) → β
  | 0, _, _, _ => z
  | m + 1, i, h2, k0 => w_toByteA8_l0_s z h0 h1 i h2 (fun i h2 => w_toByteA8_l0 z h0 h1 m i h2 k0) k0

/-- laws.toByteA8 -/
def w_toByteA8 {β : Type} (z : β) (N : Nat) (a : Nat → Int) (k0 : (Nat → Int) → β) : β :=
  w_toByteA8_l0 z a (fun (x : Nat) => 0) N 0 (fun (x : Nat) => 0) (fun q4 => k0 q4)

/-- laws.toGrid -/
def w_toGrid {β : Type} (z : β) (N : Nat) (a_0 : Int) (a_1 : Nat → Int) (a_2 : Nat → Int) (k0 : (Nat → Int) → (Nat → Int) → β) : β :=
  w_toByteA8 z N a_1 (fun q6 => w_toByteA8 z N a_2 (fun q7 => k0 q6 q7))

/-- spec.l01Perm, loop -/
def s_l01Perm_l0_s {β : Type} (z : β) (n : Int) (h0 : Nat → Int) (i : Int) (h1 : Nat → Bool) (kn : Int → (Nat → Bool) → β) (k0 : (Nat → Bool) → β) (k1 : (Nat → Bool) → β) : β :=
  cond (decide (i < 8)) (cond (decide (n ≤ i)) (cond (decide (0 ≤ i) && decide (i < (↑8 : Int))) (cond (i.toNat.blt 8) (cond (h0 i.toNat != 0) (k0 h1) (cond (fits IntKind.i64 (i + 1)) (kn (i + 1) h1) (z))) (z)) (z)) (cond (decide (0 ≤ i) && decide (i < (↑8 : Int))) (cond (i.toNat.blt 8) (cond (decide (n ≤ h0 i.toNat)) (k0 h1) (cond (decide (0 ≤ i) && decide (i < (↑8 : Int))) (cond (i.toNat.blt 8) (cond (decide (0 ≤ h0 i.toNat) && decide (h0 i.toNat < (↑8 : Int))) (cond ((h0 i.toNat).toNat.blt 8) (cond (h1 (h0 i.toNat).toNat) (k0 h1) (cond (decide (0 ≤ i) && decide (i < (↑8 : Int))) (cond (i.toNat.blt 8) (cond (decide (0 ≤ h0 i.toNat) && decide (h0 i.toNat < (↑8 : Int))) (cond ((h0 i.toNat).toNat.blt 8) (cond (fits IntKind.i64 (i + 1)) (kn (i + 1) (upd h1 (h0 i.toNat).toNat true)) (z)) (z)) (z)) (z)) (z))) (z)) (z)) (z)) (z))) (z)) (z))) (k1 h1)
def s_l01Perm_l0 {β : Type} (z : β) (n : Int) (h0 : Nat → Int) : Nat → Int → (Nat → Bool) → ((Nat → Bool) → β) → ((Nat → Bool) → β) → β
  | 0, _, _, _, _ => z
  | m + 1, i, h1, k0, k1 => s_l01Perm_l0_s z n h0 i h1 (fun i h1 => s_l01Perm_l0 z n h0 m i h1 k0 k1) k0 k1

/-- spec.l01Perm -/
def s_l01Perm {β : Type} (z : β) (N : Nat) (list : Nat → Int) (n : Int) (k0 : Bool → β) : β :=
  s_l01Perm_l0 z n list N 0 (fun (x : Nat) => false) (fun q5 => k0 false) (fun q5 => k0 true)

/-- spec.l01Is, loop -/
def s_l01Is_l0_s {β : Type} (z : β) (h0_0 : Int) (h0_1 : Nat → Int) (h0_2 : Nat → Int) (i : Int) (kn : Int → β) (k0 : β) (k1 : β) : β :=
  cond (decide (i < h0_0)) (cond (decide (0 ≤ i) && decide (i < (↑8 : Int))) (cond (i.toNat.blt 8) (cond (decide (0 ≤ i) && decide (i < (↑8 : Int))) (cond (i.toNat.blt 8) (cond (h0_1 i.toNat == h0_2 i.toNat) (k0) (cond (fits IntKind.i64 (i + 1)) (kn (i + 1)) (z))) (z)) (z)) (z)) (z)) (k1)
def s_l01Is_l0 {β : Type} (z : β) (h0_0 : Int) (h0_1 : Nat → Int) (h0_2 : Nat → Int) : Nat → Int → β → β → β
  | 0, _, _, _ => z
  | m + 1, i, k0, k1 => s_l01Is_l0_s z h0_0 h0_1 h0_2 i (fun i => s_l01Is_l0 z h0_0 h0_1 h0_2 m i k0 k1) k0 k1

/-- spec.l01Is -/
def s_l01Is {β : Type} (z : β) (N : Nat) (g_0 : Int) (g_1 : Nat → Int) (g_2 : Nat → Int) (k0 : Bool → β) : β :=
  s_l01In z N g_0 2 8 (fun q6 => cond (!q6) (k0 false) (s_l01Perm z N g_1 g_0 (fun q7 => cond (!q7) (k0 false) (s_l01Perm z N g_2 g_0 (fun q8 => cond (!q8) (k0 false) (s_l01Is_l0 z g_0 g_1 g_2 N 0 (k0 false) (k0 true)))))))

/-- spec.LowerState -/
def s_LowerState {β : Type} (z : β) (N : Nat) (g_0 : Int) (g_1 : Nat → Int) (g_2 : Nat → Int) (k0 : (Nat → Int) → Int → β) : β :=
  s_l01Is z N g_0 g_1 g_2 (fun q6 => cond (!q6) (k0 (fun (x : Nat) => 0) 1) (k0 g_1 0))

/-- (impl.Grid).n -/
def i_Grid_n {β : Type} (z : β) (N : Nat) (g_0 : Int) (g_1 : Nat → Int) (g_2 : Nat → Int) (k0 : β) : β :=
  k0

/-- impl.isOrder, loop -/
def i_isOrder_l0_s2_s {β : Type} (z : β) (n : Int) (h0_0 : Int) (h0_1 : Nat → Int) (h0_2 : Nat → Int) (seen : Int) (t10 : Int) (kn : Int → Int → β) (k0 : β) (k1 : Int → β) : β :=
  cond (decide (t10 < 8)) (cond (decide (0 ≤ t10) && decide (t10 < (↑8 : Int))) (cond (t10.toNat.blt 8) (cond (decide (n ≤ t10)) (cond (h0_1 t10.toNat != 0) (k0) (cond (decide (n ≤ h0_1 t10.toNat)) (k0) (cond (decide (t10 < n)) (cond (decide (0 ≤ h0_1 t10.toNat) && decide (h0_1 t10.toNat < (↑64 : Int))) (cond (fits IntKind.i64 (shlI 1 (h0_1 t10.toNat))) (cond (fits IntKind.i64 (t10 + 1)) (kn (bitI BinOp.or IntKind.i64 seen (shlI 1 (h0_1 t10.toNat))) (t10 + 1)) (z)) (z)) (z)) (cond (fits IntKind.i64 (t10 + 1)) (kn seen (t10 + 1)) (z))))) (cond (decide (n ≤ h0_1 t10.toNat)) (k0) (cond (decide (t10 < n)) (cond (decide (0 ≤ h0_1 t10.toNat) && decide (h0_1 t10.toNat < (↑64 : Int))) (cond (fits IntKind.i64 (shlI 1 (h0_1 t10.toNat))) (cond (fits IntKind.i64 (t10 + 1)) (kn (bitI BinOp.or IntKind.i64 seen (shlI 1 (h0_1 t10.toNat))) (t10 + 1)) (z)) (z)) (z)) (cond (fits IntKind.i64 (t10 + 1)) (kn seen (t10 + 1)) (z))))) (z)) (z)) (k1 seen)
def i_isOrder_l0_s2 {β : Type} (z : β) (n : Int) (h0_0 : Int) (h0_1 : Nat → Int) (h0_2 : Nat → Int) : Nat → Int → Int → β → (Int → β) → β
  | 0, _, _, _, _ => z
  | m + 1, seen, t10, k0, k1 => i_isOrder_l0_s2_s z n h0_0 h0_1 h0_2 seen t10 (fun seen t10 => i_isOrder_l0_s2 z n h0_0 h0_1 h0_2 m seen t10 k0 k1) k0 k1

/-- impl.isOrder -/
def i_isOrder_s2 {β : Type} (z : β) (N : Nat) (n : Int) (h0_0 : Int) (h0_1 : Nat → Int) (h0_2 : Nat → Int) (k0 : Bool → β) : β :=
  i_isOrder_l0_s2 z n h0_0 h0_1 h0_2 N 0 0 (k0 false) (fun q7 => cond (decide (0 ≤ n) && decide (n < (↑64 : Int))) (cond (fits IntKind.i64 (shlI 1 n)) (cond (fits IntKind.i64 (shlI 1 n - 1)) (k0 (q7 == shlI 1 n - 1)) (z)) (z)) (z))

/-- impl.isOrder, loop -/
def i_isOrder_l0_s3_s {β : Type} (z : β) (n : Int) (h0_0 : Int) (h0_1 : Nat → Int) (h0_2 : Nat → Int) (seen : Int) (t10 : Int) (kn : Int → Int → β) (k0 : β) (k1 : Int → β) : β :=
  cond (decide (t10 < 8)) (cond (decide (0 ≤ t10) && decide (t10 < (↑8 : Int))) (cond (t10.toNat.blt 8) (cond (decide (n ≤ t10)) (cond (h0_2 t10.toNat != 0) (k0) (cond (decide (n ≤ h0_2 t10.toNat)) (k0) (cond (decide (t10 < n)) (cond (decide (0 ≤ h0_2 t10.toNat) && decide (h0_2 t10.toNat < (↑64 : Int))) (cond (fits IntKind.i64 (shlI 1 (h0_2 t10.toNat))) (cond (fits IntKind.i64 (t10 + 1)) (kn (bitI BinOp.or IntKind.i64 seen (shlI 1 (h0_2 t10.toNat))) (t10 + 1)) (z)) (z)) (z)) (cond (fits IntKind.i64 (t10 + 1)) (kn seen (t10 + 1)) (z))))) (cond (decide (n ≤ h0_2 t10.toNat)) (k0) (cond (decide (t10 < n)) (cond (decide (0 ≤ h0_2 t10.toNat) && decide (h0_2 t10.toNat < (↑64 : Int))) (cond (fits IntKind.i64 (shlI 1 (h0_2 t10.toNat))) (cond (fits IntKind.i64 (t10 + 1)) (kn (bitI BinOp.or IntKind.i64 seen (shlI 1 (h0_2 t10.toNat))) (t10 + 1)) (z)) (z)) (z)) (cond (fits IntKind.i64 (t10 + 1)) (kn seen (t10 + 1)) (z))))) (z)) (z)) (k1 seen)
def i_isOrder_l0_s3 {β : Type} (z : β) (n : Int) (h0_0 : Int) (h0_1 : Nat → Int) (h0_2 : Nat → Int) : Nat → Int → Int → β → (Int → β) → β
  | 0, _, _, _, _ => z
  | m + 1, seen, t10, k0, k1 => i_isOrder_l0_s3_s z n h0_0 h0_1 h0_2 seen t10 (fun seen t10 => i_isOrder_l0_s3 z n h0_0 h0_1 h0_2 m seen t10 k0 k1) k0 k1

/-- impl.isOrder -/
def i_isOrder_s3 {β : Type} (z : β) (N : Nat) (n : Int) (h0_0 : Int) (h0_1 : Nat → Int) (h0_2 : Nat → Int) (k0 : Bool → β) : β :=
  i_isOrder_l0_s3 z n h0_0 h0_1 h0_2 N 0 0 (k0 false) (fun q7 => cond (decide (0 ≤ n) && decide (n < (↑64 : Int))) (cond (fits IntKind.i64 (shlI 1 n)) (cond (fits IntKind.i64 (shlI 1 n - 1)) (k0 (q7 == shlI 1 n - 1)) (z)) (z)) (z))

/-- impl.IsGrid, loop -/
def i_IsGrid_l0_s {β : Type} (z : β) (t25 : Int) (h0_0 : Int) (h0_1 : Nat → Int) (h0_2 : Nat → Int) (t26 : Int) (kn : Int → β) (k0 : β) (k1 : β) : β :=
  cond (decide (t26 < t25)) (cond (decide (0 ≤ t26) && decide (t26 < (↑8 : Int))) (cond (t26.toNat.blt 8) (cond (decide (0 ≤ t26) && decide (t26 < (↑8 : Int))) (cond (t26.toNat.blt 8) (cond (h0_1 t26.toNat == h0_2 t26.toNat) (k0) (cond (fits IntKind.i64 (t26 + 1)) (kn (t26 + 1)) (z))) (z)) (z)) (z)) (z)) (k1)
def i_IsGrid_l0 {β : Type} (z : β) (t25 : Int) (h0_0 : Int) (h0_1 : Nat → Int) (h0_2 : Nat → Int) : Nat → Int → β → β → β
  | 0, _, _, _ => z
  | m + 1, t26, k0, k1 => i_IsGrid_l0_s z t25 h0_0 h0_1 h0_2 t26 (fun t26 => i_IsGrid_l0 z t25 h0_0 h0_1 h0_2 m t26 k0 k1) k0 k1

/-- impl.IsGrid -/
def i_IsGrid {β : Type} (z : β) (N : Nat) (g_0 : Int) (g_1 : Nat → Int) (g_2 : Nat → Int) (k0 : Bool → β) : β :=
  i_within z N g_0 2 8 (fun q6 => cond (!q6) (k0 false) (i_Grid_n z N g_0 g_1 g_2 (i_isOrder_s2 z N g_0 g_0 g_1 g_2 (fun q7 => cond (!q7) (k0 false) (i_Grid_n z N g_0 g_1 g_2 (i_isOrder_s3 z N g_0 g_0 g_1 g_2 (fun q8 => cond (!q8) (k0 false) (i_Grid_n z N g_0 g_1 g_2 (i_IsGrid_l0 z g_0 g_0 g_1 g_2 N 0 (k0 false) (k0 true))))))))))

/-- impl.LowerState$1 -/
def i_LowerState_1 {β : Type} (z : β) (N : Nat) (g_0 : Int) (g_1 : Nat → Int) (g_2 : Nat → Int) (k0 : β) : β :=
  k0

/-- impl.whole[impl.State] -/
def i_whole_i_State {β : Type} (z : β) (N : Nat) (g_0 : Int) (g_1 : Nat → Int) (g_2 : Nat → Int) (k0 : (Nat → Int) → Int → β) : β :=
  i_IsGrid z N g_0 g_1 g_2 (fun q6 => cond (!q6) (k0 (fun (x : Nat) => 0) 1) (i_LowerState_1 z N g_0 g_1 g_2 (k0 g_1 0)))

/-- impl.LowerState -/
def i_LowerState {β : Type} (z : β) (N : Nat) (g_0 : Int) (g_1 : Nat → Int) (g_2 : Nat → Int) (k0 : (Nat → Int) → Int → β) : β :=
  i_whole_i_State z N g_0 g_1 g_2 (fun q6 q7 => k0 q6 q7)

/-- laws.eqState, loop -/
def w_eqState_l0_s {β : Type} (z : β) (h0 : Nat → Int) (h1 : Nat → Int) (i : Int) (kn : Int → β) (k0 : β) (k1 : β) : β :=
  cond (decide (i < 8)) (cond (decide (0 ≤ i) && decide (i < (↑8 : Int))) (cond (i.toNat.blt 8) (cond (decide (0 ≤ i) && decide (i < (↑8 : Int))) (cond (i.toNat.blt 8) (cond (h0 i.toNat != h1 i.toNat) (k0) (cond (fits IntKind.i64 (i + 1)) (kn (i + 1)) (z))) (z)) (z)) (z)) (z)) (k1)
def w_eqState_l0 {β : Type} (z : β) (h0 : Nat → Int) (h1 : Nat → Int) : Nat → Int → β → β → β
  | 0, _, _, _ => z
  | m + 1, i, k0, k1 => w_eqState_l0_s z h0 h1 i (fun i => w_eqState_l0 z h0 h1 m i k0 k1) k0 k1

/-- laws.eqState -/
def w_eqState {β : Type} (z : β) (N : Nat) (a : Nat → Int) (b : Nat → Int) (k0 : Bool → β) : β :=
  w_eqState_l0 z a b N 0 (k0 false) (k0 true)

/-- laws.FnExactLowerState -/
def w_FnExactLowerState {β : Type} (z : β) (N : Nat) (aG_0 : Int) (aG_1 : Nat → Int) (aG_2 : Nat → Int) (k0 : Bool → β) : β :=
  w_toGrid z N aG_0 aG_1 aG_2 (fun q6 q7 => s_LowerState z N aG_0 q6 q7 (fun q8 q9 => w_toGrid z N aG_0 aG_1 aG_2 (fun q10 q11 => i_LowerState z N aG_0 q10 q11 (fun q12 q13 => w_eqState z N q12 q8 (fun q14 => cond (!q14) (k0 false) (cond (q13 != q9) (k0 false) (k0 true)))))))
end Go.AM

set_option maxRecDepth 100000
namespace Go.AM
/-- spec.l08Relation, loop -/
def s_l08Relation_l0_s {β : Type} (z : β) (r_ : Int) (h0_0 : Int) (h0_1 : Nat → Int) (h0_2 : Nat → Int) (out_n : Nat) (out_l : Nat) (out_c : Nat) (i : Int) (h1 : List Int) (kn : Nat → Nat → Nat → Int → (List Int) → β) (k0 : Nat → Nat → Nat → (List Int) → β) : β :=
  cond (decide (i < h0_0)) (cond (decide (0 ≤ i) && decide (i < (↑8 : Int))) (cond (i.toNat.blt 8) (cond (decide (0 ≤ i) && decide (i < (↑8 : Int))) (cond (i.toNat.blt 8) (cond (decide (h0_1 i.toNat ≤ r_) != decide (h0_2 i.toNat ≤ r_)) (cond (out_n.beq h1.length && true) (cond ((out_l + 1).ble 1099511627776 && ((out_l + 1) * 8).ble 1099511627776) (cond ((out_l + 1).ble out_c) (cond (out_n.beq h1.length && (0 + out_l + 1).ble h1.length) (cond (fits IntKind.i64 (i + 1)) (kn out_n (out_l + 1) out_c (i + 1) (List.take (0 + out_l) h1 ++ (fromTo ((List.replicate 1 0).set 0 i) 0 1 ++ List.drop (0 + out_l + 1) h1))) (z)) (z)) (cond (out_l.beq h1.length) (cond (fits IntKind.i64 (i + 1)) (kn ((h1 ++ fromTo ((List.replicate 1 0).set 0 i) 0 1).length) (out_l + 1) (out_l + 1) (i + 1) (h1 ++ fromTo ((List.replicate 1 0).set 0 i) 0 1)) (z)) (z))) (z)) (z)) (cond (fits IntKind.i64 (i + 1)) (kn out_n out_l out_c (i + 1) h1) (z))) (z)) (z)) (z)) (z)) (k0 out_n out_l out_c h1)
def s_l08Relation_l0 {β : Type} (z : β) (r_ : Int) (h0_0 : Int) (h0_1 : Nat → Int) (h0_2 : Nat → Int) : Nat → Nat → Nat → Nat → Int → (List Int) → (Nat → Nat → Nat → (List Int) → β) → β
  | 0, _, _, _, _, _, _ => z
  | m + 1, out_n, out_l, out_c, i, h1, k0 => s_l08Relation_l0_s z r_ h0_0 h0_1 h0_2 out_n out_l out_c i h1 (fun out_n out_l out_c i h1 => s_l08Relation_l0 z r_ h0_0 h0_1 h0_2 m out_n out_l out_c i h1 k0) k0

/-- spec.l08Relation -/
def s_l08Relation {β : Type} (z : β) (N : Nat) (g_0 : Int) (g_1 : Nat → Int) (g_2 : Nat → Int) (r_ : Int) (k0 : Nat → Nat → Nat → (List Int) → β) : β :=
  s_l08Relation_l0 z r_ g_0 g_1 g_2 N 0 0 0 0 (List.replicate 0 0) (fun q7 q8 q9 q10 => k0 q7 q8 q9 q10)

/-- spec.RelationsOf, loop -/
def s_RelationsOf_l0_s {β : Type} (z : β) (N : Nat) (h0_0 : Int) (h0_1 : Nat → Int) (h0_2 : Nat → Int) (out_n : Nat) (out_l : Nat) (out_c : Nat) (r_ : Int) (h1 : List (List Int)) (h2 : List (Nat × Nat)) (kn : Nat → Nat → Nat → Int → (List (List Int)) → (List (Nat × Nat)) → β) (k0 : Nat → Nat → Nat → (List (List Int)) → (List (Nat × Nat)) → β) : β :=
  cond (fits IntKind.i64 (h0_0 - 1)) (cond (decide (r_ < h0_0 - 1)) (s_l08Relation z N h0_0 h0_1 h0_2 r_ (fun q13 q14 q15 q16 => cond (q13.beq q16.length && (q14.beq q13 && (q15.beq q14 && true))) (cond (out_n.beq h2.length && true) (cond ((out_l + 1).ble 1099511627776 && ((out_l + 1) * 24).ble 1099511627776) (cond ((out_l + 1).ble out_c) (cond (out_n.beq h2.length && (0 + out_l + 1).ble h2.length) (cond (fits IntKind.i64 (r_ + 1)) (kn out_n (out_l + 1) out_c (r_ + 1) (h1 ++ [q16]) (List.take (0 + out_l) h2 ++ ([(h1.length, q14)] ++ List.drop (0 + out_l + 1) h2))) (z)) (z)) (cond (out_l.beq h2.length) (cond (fits IntKind.i64 (r_ + 1)) (kn ((h2 ++ [(h1.length, q14)]).length) (out_l + 1) (out_l + 1) (r_ + 1) (h1 ++ [q16]) (h2 ++ [(h1.length, q14)])) (z)) (z))) (z)) (z)) (z))) (k0 out_n out_l out_c h1 h2)) (z)
def s_RelationsOf_l0 {β : Type} (z : β) (N : Nat) (h0_0 : Int) (h0_1 : Nat → Int) (h0_2 : Nat → Int) : Nat → Nat → Nat → Nat → Int → (List (List Int)) → (List (Nat × Nat)) → (Nat → Nat → Nat → (List (List Int)) → (List (Nat × Nat)) → β) → β
  | 0, _, _, _, _, _, _, _ => z
  | m + 1, out_n, out_l, out_c, r_, h1, h2, k0 => s_RelationsOf_l0_s z N h0_0 h0_1 h0_2 out_n out_l out_c r_ h1 h2 (fun out_n out_l out_c r_ h1 h2 => s_RelationsOf_l0 z N h0_0 h0_1 h0_2 m out_n out_l out_c r_ h1 h2 k0) k0

/-- spec.RelationsOf -/
def s_RelationsOf {β : Type} (z : β) (N : Nat) (g_0 : Int) (g_1 : Nat → Int) (g_2 : Nat → Int) (k0 : Int → β) (k1 : Nat → Nat → Nat → Int → (List (Nat × Nat)) → (List (List Int)) → β) : β :=
  s_l01Is z N g_0 g_1 g_2 (fun q6 => cond (!q6) (k0 1) (s_RelationsOf_l0 z N g_0 g_1 g_2 N 0 0 0 0 (List.replicate 0 []) (List.map (fun (i : Nat) => (i, 0)) (List.range 0)) (fun q7 q8 q9 q10 q11 => k1 q7 q8 q9 0 q11 q10)))

/-- (impl.Grid).relations, loop -/
def i_Grid_relations_l1_s {β : Type} (z : β) (out_n : Nat) (out_l : Nat) (out_c : Nat) (r_ : Int) (t10 : Int) (t11 : Int) (t16 : Int) (h0_0 : Int) (h0_1 : Nat → Int) (h0_2 : Nat → Int) (h1 : List (List Int)) (h2 : List (Nat × Nat)) (list_n : Nat) (list_l : Nat) (list_c : Nat) (t17 : Int) (h3 : List Int) (kn : Nat → Nat → Nat → Int → (List Int) → β) (k0 : Nat → Nat → Nat → (List Int) → β) : β :=
  cond (decide (t17 < t16)) (cond (decide (0 ≤ t17) && decide (t17 < (↑8 : Int))) (cond (t17.toNat.blt 8) (cond (decide (0 ≤ t17) && decide (t17 < (↑8 : Int))) (cond (t17.toNat.blt 8) (cond (decide ((bif decide (h0_2 t17.toNat < h0_1 t17.toNat) then h0_2 t17.toNat else h0_1 t17.toNat) ≤ r_)) (cond (decide (0 ≤ t17) && decide (t17 < (↑8 : Int))) (cond (t17.toNat.blt 8) (cond (decide (0 ≤ t17) && decide (t17 < (↑8 : Int))) (cond (t17.toNat.blt 8) (cond (decide (r_ < bif decide (h0_1 t17.toNat < h0_2 t17.toNat) then h0_2 t17.toNat else h0_1 t17.toNat)) (cond (list_n.beq h3.length && true) (cond ((list_l + 1).ble 1099511627776 && ((list_l + 1) * 8).ble 1099511627776) (cond ((list_l + 1).ble list_c) (cond (list_n.beq h3.length && (0 + list_l + 1).ble h3.length) (cond (fits IntKind.i64 (t17 + 1)) (kn list_n (list_l + 1) list_c (t17 + 1) (List.take (0 + list_l) h3 ++ (fromTo ((List.replicate 1 0).set 0 t17) 0 1 ++ List.drop (0 + list_l + 1) h3))) (z)) (z)) (cond (list_l.beq h3.length) (cond (fits IntKind.i64 (t17 + 1)) (kn ((h3 ++ fromTo ((List.replicate 1 0).set 0 t17) 0 1).length) (list_l + 1) (list_l + 1) (t17 + 1) (h3 ++ fromTo ((List.replicate 1 0).set 0 t17) 0 1)) (z)) (z))) (z)) (z)) (cond (fits IntKind.i64 (t17 + 1)) (kn list_n list_l list_c (t17 + 1) h3) (z))) (z)) (z)) (z)) (z)) (cond (fits IntKind.i64 (t17 + 1)) (kn list_n list_l list_c (t17 + 1) h3) (z))) (z)) (z)) (z)) (z)) (k0 list_n list_l list_c h3)
def i_Grid_relations_l1 {β : Type} (z : β) (out_n : Nat) (out_l : Nat) (out_c : Nat) (r_ : Int) (t10 : Int) (t11 : Int) (t16 : Int) (h0_0 : Int) (h0_1 : Nat → Int) (h0_2 : Nat → Int) (h1 : List (List Int)) (h2 : List (Nat × Nat)) : Nat → Nat → Nat → Nat → Int → (List Int) → (Nat → Nat → Nat → (List Int) → β) → β
  | 0, _, _, _, _, _, _ => z
  | m + 1, list_n, list_l, list_c, t17, h3, k0 => i_Grid_relations_l1_s z out_n out_l out_c r_ t10 t11 t16 h0_0 h0_1 h0_2 h1 h2 list_n list_l list_c t17 h3 (fun list_n list_l list_c t17 h3 => i_Grid_relations_l1 z out_n out_l out_c r_ t10 t11 t16 h0_0 h0_1 h0_2 h1 h2 m list_n list_l list_c t17 h3 k0) k0

/-- (impl.Grid).relations, loop -/
def i_Grid_relations_l0_s {β : Type} (z : β) (N : Nat) (t10 : Int) (h0_0 : Int) (h0_1 : Nat → Int) (h0_2 : Nat → Int) (out_n : Nat) (out_l : Nat) (out_c : Nat) (t11 : Int) (h1 : List (List Int)) (h2 : List (Nat × Nat)) (kn : Nat → Nat → Nat → Int → (List (List Int)) → (List (Nat × Nat)) → β) (k0 : Nat → Nat → Nat → (List (List Int)) → (List (Nat × Nat)) → β) : β :=
  cond (decide (t11 < t10)) (i_Grid_n z N h0_0 h0_1 h0_2 (i_Grid_relations_l1 z out_n out_l out_c t11 t10 t11 h0_0 h0_0 h0_1 h0_2 h1 h2 N 0 0 0 0 (List.replicate 0 0) (fun q14 q15 q16 q17 => cond (q14.beq q17.length && (q15.beq q14 && (q16.beq q15 && true))) (cond (out_n.beq h2.length && true) (cond ((out_l + 1).ble 1099511627776 && ((out_l + 1) * 24).ble 1099511627776) (cond ((out_l + 1).ble out_c) (cond (out_n.beq h2.length && (0 + out_l + 1).ble h2.length) (cond (fits IntKind.i64 (t11 + 1)) (kn out_n (out_l + 1) out_c (t11 + 1) (h1 ++ [q17]) (List.take (0 + out_l) h2 ++ ([(h1.length, q15)] ++ List.drop (0 + out_l + 1) h2))) (z)) (z)) (cond (out_l.beq h2.length) (cond (fits IntKind.i64 (t11 + 1)) (kn ((h2 ++ [(h1.length, q15)]).length) (out_l + 1) (out_l + 1) (t11 + 1) (h1 ++ [q17]) (h2 ++ [(h1.length, q15)])) (z)) (z))) (z)) (z)) (z)))) (k0 out_n out_l out_c h1 h2)
def i_Grid_relations_l0 {β : Type} (z : β) (N : Nat) (t10 : Int) (h0_0 : Int) (h0_1 : Nat → Int) (h0_2 : Nat → Int) : Nat → Nat → Nat → Nat → Int → (List (List Int)) → (List (Nat × Nat)) → (Nat → Nat → Nat → (List (List Int)) → (List (Nat × Nat)) → β) → β
  | 0, _, _, _, _, _, _, _ => z
  | m + 1, out_n, out_l, out_c, t11, h1, h2, k0 => i_Grid_relations_l0_s z N t10 h0_0 h0_1 h0_2 out_n out_l out_c t11 h1 h2 (fun out_n out_l out_c t11 h1 h2 => i_Grid_relations_l0 z N t10 h0_0 h0_1 h0_2 m out_n out_l out_c t11 h1 h2 k0) k0

/-- (impl.Grid).relations -/
def i_Grid_relations {β : Type} (z : β) (N : Nat) (g_0 : Int) (g_1 : Nat → Int) (g_2 : Nat → Int) (k0 : Nat → Nat → Nat → (List (Nat × Nat)) → (List (List Int)) → β) : β :=
  i_Grid_n z N g_0 g_1 g_2 (cond (fits IntKind.i64 (g_0 - 1)) (i_Grid_relations_l0 z N (g_0 - 1) g_0 g_1 g_2 N 0 0 0 0 (List.replicate 0 []) (List.map (fun (i : Nat) => (i, 0)) (List.range 0)) (fun q6 q7 q8 q9 q10 => k0 q6 q7 q8 q10 q9)) (z))

/-- impl.RelationsOf$1, loop -/
def i_RelationsOf_1_l1_s {β : Type} (z : β) (out_n : Nat) (out_l : Nat) (out_c : Nat) (t11_n : Nat) (t11_l : Nat) (t11_c : Nat) (t12 : Int) (t13 : Int) (t18_r : Nat) (t18_o : Nat) (t18_n : Nat) (t18_l : Nat) (t18_c : Nat) (t19 : Int) (h0_0 : Int) (h0_1 : Nat → Int) (h0_2 : Nat → Int) (h1 : List (List Int)) (h2 : List (Nat × Nat)) (h3 : List (Nat × Nat)) (h4 : List (List Int)) (columns_n : Nat) (columns_l : Nat) (columns_c : Nat) (t20 : Int) (h5 : List Int) (kn : Nat → Nat → Nat → Int → (List Int) → β) (k0 : Nat → Nat → Nat → (List Int) → β) : β :=
  cond (decide (t20 < t19)) (cond (t18_n.beq (h4[t18_r]?.getD []).length && (decide (0 ≤ t20) && decide (t20 < (↑t18_l : Int)))) (cond (t18_n.beq (h4[t18_r]?.getD []).length && (addO t18_o t20.toNat).blt (h4[t18_r]?.getD []).length) (cond (columns_n.beq h5.length && true) (cond ((columns_l + 1).ble 1099511627776 && ((columns_l + 1) * 8).ble 1099511627776) (cond ((columns_l + 1).ble columns_c) (cond (columns_n.beq h5.length && (0 + columns_l + 1).ble h5.length) (cond (fits IntKind.i64 (t20 + 1)) (kn columns_n (columns_l + 1) columns_c (t20 + 1) (List.take (0 + columns_l) h5 ++ (fromTo ((List.replicate 1 0).set 0 ((h4[t18_r]?.getD [])[addO t18_o t20.toNat]?.getD 0)) 0 1 ++ List.drop (0 + columns_l + 1) h5))) (z)) (z)) (cond (columns_l.beq h5.length) (cond (fits IntKind.i64 (t20 + 1)) (kn ((h5 ++ fromTo ((List.replicate 1 0).set 0 ((h4[t18_r]?.getD [])[addO t18_o t20.toNat]?.getD 0)) 0 1).length) (columns_l + 1) (columns_l + 1) (t20 + 1) (h5 ++ fromTo ((List.replicate 1 0).set 0 ((h4[t18_r]?.getD [])[addO t18_o t20.toNat]?.getD 0)) 0 1)) (z)) (z))) (z)) (z)) (z)) (z)) (k0 columns_n columns_l columns_c h5)
def i_RelationsOf_1_l1 {β : Type} (z : β) (out_n : Nat) (out_l : Nat) (out_c : Nat) (t11_n : Nat) (t11_l : Nat) (t11_c : Nat) (t12 : Int) (t13 : Int) (t18_r : Nat) (t18_o : Nat) (t18_n : Nat) (t18_l : Nat) (t18_c : Nat) (t19 : Int) (h0_0 : Int) (h0_1 : Nat → Int) (h0_2 : Nat → Int) (h1 : List (List Int)) (h2 : List (Nat × Nat)) (h3 : List (Nat × Nat)) (h4 : List (List Int)) : Nat → Nat → Nat → Nat → Int → (List Int) → (Nat → Nat → Nat → (List Int) → β) → β
  | 0, _, _, _, _, _, _ => z
  | m + 1, columns_n, columns_l, columns_c, t20, h5, k0 => i_RelationsOf_1_l1_s z out_n out_l out_c t11_n t11_l t11_c t12 t13 t18_r t18_o t18_n t18_l t18_c t19 h0_0 h0_1 h0_2 h1 h2 h3 h4 columns_n columns_l columns_c t20 h5 (fun columns_n columns_l columns_c t20 h5 => i_RelationsOf_1_l1 z out_n out_l out_c t11_n t11_l t11_c t12 t13 t18_r t18_o t18_n t18_l t18_c t19 h0_0 h0_1 h0_2 h1 h2 h3 h4 m columns_n columns_l columns_c t20 h5 k0) k0

/-- impl.RelationsOf$1, loop -/
def i_RelationsOf_1_l0_s {β : Type} (z : β) (N : Nat) (t11_n : Nat) (t11_l : Nat) (t11_c : Nat) (t12 : Int) (h0_0 : Int) (h0_1 : Nat → Int) (h0_2 : Nat → Int) (h3 : List (Nat × Nat)) (h4 : List (List Int)) (out_n : Nat) (out_l : Nat) (out_c : Nat) (t13 : Int) (h1 : List (List Int)) (h2 : List (Nat × Nat)) (kn : Nat → Nat → Nat → Int → (List (List Int)) → (List (Nat × Nat)) → β) (k0 : Nat → Nat → Nat → (List (List Int)) → (List (Nat × Nat)) → β) : β :=
  cond (decide (t13 < t12)) (cond (t11_n.beq h3.length && (decide (0 ≤ t13) && decide (t13 < (↑t11_l : Int)))) (cond (t11_n.beq h3.length && t13.toNat.blt h3.length) (cond ((h3[t13.toNat]?.getD (0, 0)).snd.ble 9223372036854775807) (i_RelationsOf_1_l1 z out_n out_l out_c t11_n t11_l t11_c t12 t13 ((h3[t13.toNat]?.getD (0, 0)).fst) 0 ((h3[t13.toNat]?.getD (0, 0)).snd) ((h3[t13.toNat]?.getD (0, 0)).snd) ((h3[t13.toNat]?.getD (0, 0)).snd) (↑(h3[t13.toNat]?.getD (0, 0)).snd : Int) h0_0 h0_1 h0_2 h1 h2 h3 h4 N 0 0 0 0 (List.replicate 0 0) (fun q19 q20 q21 q22 => cond (q19.beq q22.length && (q20.beq q19 && (q21.beq q20 && true))) (cond (out_n.beq h2.length && true) (cond ((out_l + 1).ble 1099511627776 && ((out_l + 1) * 24).ble 1099511627776) (cond ((out_l + 1).ble out_c) (cond (out_n.beq h2.length && (0 + out_l + 1).ble h2.length) (cond (fits IntKind.i64 (t13 + 1)) (kn out_n (out_l + 1) out_c (t13 + 1) (h1 ++ [q22]) (List.take (0 + out_l) h2 ++ ([(h1.length, q20)] ++ List.drop (0 + out_l + 1) h2))) (z)) (z)) (cond (out_l.beq h2.length) (cond (fits IntKind.i64 (t13 + 1)) (kn ((h2 ++ [(h1.length, q20)]).length) (out_l + 1) (out_l + 1) (t13 + 1) (h1 ++ [q22]) (h2 ++ [(h1.length, q20)])) (z)) (z))) (z)) (z)) (z))) (z)) (z)) (z)) (k0 out_n out_l out_c h1 h2)
def i_RelationsOf_1_l0 {β : Type} (z : β) (N : Nat) (t11_n : Nat) (t11_l : Nat) (t11_c : Nat) (t12 : Int) (h0_0 : Int) (h0_1 : Nat → Int) (h0_2 : Nat → Int) (h3 : List (Nat × Nat)) (h4 : List (List Int)) : Nat → Nat → Nat → Nat → Int → (List (List Int)) → (List (Nat × Nat)) → (Nat → Nat → Nat → (List (List Int)) → (List (Nat × Nat)) → β) → β
  | 0, _, _, _, _, _, _, _ => z
  | m + 1, out_n, out_l, out_c, t13, h1, h2, k0 => i_RelationsOf_1_l0_s z N t11_n t11_l t11_c t12 h0_0 h0_1 h0_2 h3 h4 out_n out_l out_c t13 h1 h2 (fun out_n out_l out_c t13 h1 h2 => i_RelationsOf_1_l0 z N t11_n t11_l t11_c t12 h0_0 h0_1 h0_2 h3 h4 m out_n out_l out_c t13 h1 h2 k0) k0

/-- impl.RelationsOf$1 -/
def i_RelationsOf_1 {β : Type} (z : β) (N : Nat) (g_0 : Int) (g_1 : Nat → Int) (g_2 : Nat → Int) (k0 : Nat → Nat → Nat → (List (Nat × Nat)) → (List (List Int)) → β) : β :=
  i_Grid_relations z N g_0 g_1 g_2 (fun q6 q7 q8 q9 q10 => cond (q7.ble 9223372036854775807) (i_RelationsOf_1_l0 z N q6 q7 q8 (↑q7 : Int) g_0 g_1 g_2 q9 q10 N 0 0 0 0 (List.replicate 0 []) (List.map (fun (i : Nat) => (i, 0)) (List.range 0)) (fun q11 q12 q13 q14 q15 => k0 q11 q12 q13 q15 q14)) (z))

/-- impl.whole[[][]int64] -/
def i_whole_int64_s2 {β : Type} (z : β) (N : Nat) (g_0 : Int) (g_1 : Nat → Int) (g_2 : Nat → Int) (k0 : Int → β) (k1 : Nat → Nat → Nat → Int → (List (Nat × Nat)) → (List (List Int)) → β) : β :=
  i_IsGrid z N g_0 g_1 g_2 (fun q6 => cond (!q6) (k0 1) (i_RelationsOf_1 z N g_0 g_1 g_2 (fun q7 q8 q9 q10 q11 => k1 q7 q8 q9 0 q10 q11)))

/-- impl.RelationsOf -/
def i_RelationsOf {β : Type} (z : β) (N : Nat) (g_0 : Int) (g_1 : Nat → Int) (g_2 : Nat → Int) (k0 : Int → β) (k1 : Nat → Nat → Nat → Int → (List (Nat × Nat)) → (List (List Int)) → β) : β :=
  i_whole_int64_s2 z N g_0 g_1 g_2 (fun q6 => k0 q6) (fun q6 q7 q8 q9 q10 q11 => k1 q6 q7 q8 q9 q10 q11)

/-- laws.eqInt64SS, loop -/
def w_eqInt64SS_l0_s {β : Type} (z : β) (i : Int)  (kn : β) (k0 : β) : β :=
  cond (decide (i < 0)) (z) (k0)
def w_eqInt64SS_l0 {β : Type} (z : β) (i : Int) : Nat → β → β
  | 0, _ => z
  | m + 1, k0 => w_eqInt64SS_l0_s z i (w_eqInt64SS_l0 z i m k0) k0

/-- laws.eqInt64SS -/
def w_eqInt64SS {β : Type} (z : β) (N : Nat)  (k0 : Bool → β) : β :=
  w_eqInt64SS_l0 z 0 N (k0 true)

/-- laws.markInt64SS, loop -/
def w_markInt64SS_l0_s {β : Type} (z : β) (k : Int) (i : Int)  (kn : β) (k0 : β) : β :=
  cond (decide (i < 0)) (z) (k0)
def w_markInt64SS_l0 {β : Type} (z : β) (k : Int) (i : Int) : Nat → β → β
  | 0, _ => z
  | m + 1, k0 => w_markInt64SS_l0_s z k i (w_markInt64SS_l0 z k i m k0) k0

/-- laws.markInt64SS -/
def w_markInt64SS {β : Type} (z : β) (N : Nat) (k : Int) (k0 : β) : β :=
  w_markInt64SS_l0 z k 0 N k0

/-- laws.heldInt64SS, loop -/
def w_heldInt64SS_l0_s {β : Type} (z : β) (k : Int) (i : Int)  (kn : β) (k0 : β) : β :=
  cond (decide (i < 0)) (z) (k0)
def w_heldInt64SS_l0 {β : Type} (z : β) (k : Int) (i : Int) : Nat → β → β
  | 0, _ => z
  | m + 1, k0 => w_heldInt64SS_l0_s z k i (w_heldInt64SS_l0 z k i m k0) k0

/-- laws.heldInt64SS -/
def w_heldInt64SS {β : Type} (z : β) (N : Nat) (k : Int) (k0 : β) : β :=
  w_heldInt64SS_l0 z k 0 N k0

/-- laws.eqInt64SS, loop -/
def w_eqInt64SS_l0_s2_s {β : Type} (z : β) (a_n : Nat) (a_l : Nat) (a_c : Nat) (i : Int) (h0 : List (Nat × Nat)) (h1 : List (List Int))  (kn : β) (k0 : β) : β :=
  cond (a_l.ble 9223372036854775807) (cond (decide (i < (↑a_l : Int))) (cond (a_n.beq h0.length && (decide (0 ≤ i) && decide (i < (↑a_l : Int)))) (cond (a_n.beq h0.length && i.toNat.blt h0.length) (z) (z)) (z)) (k0)) (z)
def w_eqInt64SS_l0_s2 {β : Type} (z : β) (a_n : Nat) (a_l : Nat) (a_c : Nat) (i : Int) (h0 : List (Nat × Nat)) (h1 : List (List Int)) : Nat → β → β
  | 0, _ => z
  | m + 1, k0 => w_eqInt64SS_l0_s2_s z a_n a_l a_c i h0 h1 (w_eqInt64SS_l0_s2 z a_n a_l a_c i h0 h1 m k0) k0

/-- laws.eqInt64SS -/
def w_eqInt64SS_s2 {β : Type} (z : β) (N : Nat) (a_n : Nat) (a_l : Nat) (a_c : Nat) (h0 : List (Nat × Nat)) (h1 : List (List Int)) (k0 : Bool → β) : β :=
  cond (a_l.ble 9223372036854775807) (cond ((↑a_l : Int) != 0) (k0 false) (w_eqInt64SS_l0_s2 z a_n a_l a_c 0 h0 h1 N (k0 true))) (z)

/-- laws.markInt64S, loop -/
def w_markInt64S_l0_s6_s {β : Type} (z : β) (a_r : Nat) (a_o : Nat) (a_n : Nat) (a_l : Nat) (a_c : Nat) (k : Int) (i : Int) (h0 : List (List Int)) (kn : Int → Int → (List (List Int)) → β) (k0 : Int → (List (List Int)) → β) : β :=
  cond (a_l.ble 9223372036854775807) (cond (decide (i < (↑a_l : Int))) (cond (a_n.beq (h0[a_r]?.getD []).length && (decide (0 ≤ i) && decide (i < (↑a_l : Int)))) (cond (a_n.beq (h0[a_r]?.getD []).length && (addO a_o i.toNat).blt (h0[a_r]?.getD []).length) (cond (fits IntKind.i64 (k + 1)) (cond (fits IntKind.i64 (i + 1)) (kn (k + 1) (i + 1) (h0.set a_r ((h0[a_r]?.getD []).set (addO a_o i.toNat) k))) (z)) (z)) (z)) (z)) (k0 k h0)) (z)
def w_markInt64S_l0_s6 {β : Type} (z : β) (a_r : Nat) (a_o : Nat) (a_n : Nat) (a_l : Nat) (a_c : Nat) : Nat → Int → Int → (List (List Int)) → (Int → (List (List Int)) → β) → β
  | 0, _, _, _, _ => z
  | m + 1, k, i, h0, k0 => w_markInt64S_l0_s6_s z a_r a_o a_n a_l a_c k i h0 (fun k i h0 => w_markInt64S_l0_s6 z a_r a_o a_n a_l a_c m k i h0 k0) k0

/-- laws.markInt64S -/
def w_markInt64S_s6 {β : Type} (z : β) (N : Nat) (a_r : Nat) (a_o : Nat) (a_n : Nat) (a_l : Nat) (a_c : Nat) (k : Int) (h0 : List (List Int)) (k0 : Int → (List (List Int)) → β) : β :=
  w_markInt64S_l0_s6 z a_r a_o a_n a_l a_c N k 0 h0 (fun q10 q11 => k0 q10 q11)

/-- laws.markInt64SS, loop -/
def w_markInt64SS_l0_s2_s {β : Type} (z : β) (N : Nat) (a_n : Nat) (a_l : Nat) (a_c : Nat) (h0 : List (Nat × Nat)) (k : Int) (i : Int) (h1 : List (List Int)) (kn : Int → Int → (List (List Int)) → β) (k0 : Int → (List (List Int)) → β) : β :=
  cond (a_l.ble 9223372036854775807) (cond (decide (i < (↑a_l : Int))) (cond (a_n.beq h0.length && (decide (0 ≤ i) && decide (i < (↑a_l : Int)))) (cond (a_n.beq h0.length && i.toNat.blt h0.length) (w_markInt64S_s6 z N ((h0[i.toNat]?.getD (0, 0)).fst) 0 ((h0[i.toNat]?.getD (0, 0)).snd) ((h0[i.toNat]?.getD (0, 0)).snd) ((h0[i.toNat]?.getD (0, 0)).snd) k h1 (fun q11 q12 => cond (fits IntKind.i64 (i + 1)) (kn q11 (i + 1) q12) (z))) (z)) (z)) (k0 k h1)) (z)
def w_markInt64SS_l0_s2 {β : Type} (z : β) (N : Nat) (a_n : Nat) (a_l : Nat) (a_c : Nat) (h0 : List (Nat × Nat)) : Nat → Int → Int → (List (List Int)) → (Int → (List (List Int)) → β) → β
  | 0, _, _, _, _ => z
  | m + 1, k, i, h1, k0 => w_markInt64SS_l0_s2_s z N a_n a_l a_c h0 k i h1 (fun k i h1 => w_markInt64SS_l0_s2 z N a_n a_l a_c h0 m k i h1 k0) k0

/-- laws.markInt64SS -/
def w_markInt64SS_s2 {β : Type} (z : β) (N : Nat) (a_n : Nat) (a_l : Nat) (a_c : Nat) (k : Int) (h0 : List (Nat × Nat)) (h1 : List (List Int)) (k0 : Int → (List (List Int)) → β) : β :=
  w_markInt64SS_l0_s2 z N a_n a_l a_c h0 N k 0 h1 (fun q9 q10 => k0 q9 q10)

/-- laws.heldInt64S, loop -/
def w_heldInt64S_l0_s6_s {β : Type} (z : β) (a_r : Nat) (a_o : Nat) (a_n : Nat) (a_l : Nat) (a_c : Nat) (h0 : List (List Int)) (k : Int) (i : Int) (kn : Int → Int → β) (k0 : β) (k1 : Int → β) : β :=
  cond (a_l.ble 9223372036854775807) (cond (decide (i < (↑a_l : Int))) (cond (a_n.beq (h0[a_r]?.getD []).length && (decide (0 ≤ i) && decide (i < (↑a_l : Int)))) (cond (a_n.beq (h0[a_r]?.getD []).length && (addO a_o i.toNat).blt (h0[a_r]?.getD []).length) (cond ((h0[a_r]?.getD [])[addO a_o i.toNat]?.getD 0 != k) (k0) (cond (fits IntKind.i64 (k + 1)) (cond (fits IntKind.i64 (i + 1)) (kn (k + 1) (i + 1)) (z)) (z))) (z)) (z)) (k1 k)) (z)
def w_heldInt64S_l0_s6 {β : Type} (z : β) (a_r : Nat) (a_o : Nat) (a_n : Nat) (a_l : Nat) (a_c : Nat) (h0 : List (List Int)) : Nat → Int → Int → β → (Int → β) → β
  | 0, _, _, _, _ => z
  | m + 1, k, i, k0, k1 => w_heldInt64S_l0_s6_s z a_r a_o a_n a_l a_c h0 k i (fun k i => w_heldInt64S_l0_s6 z a_r a_o a_n a_l a_c h0 m k i k0 k1) k0 k1

/-- laws.heldInt64S -/
def w_heldInt64S_s6 {β : Type} (z : β) (N : Nat) (a_r : Nat) (a_o : Nat) (a_n : Nat) (a_l : Nat) (a_c : Nat) (k : Int) (h0 : List (List Int)) (k0 : Int → β) : β :=
  w_heldInt64S_l0_s6 z a_r a_o a_n a_l a_c h0 N k 0 (k0 (-1)) (fun q10 => k0 q10)

/-- laws.heldInt64SS, loop -/
def w_heldInt64SS_l0_s2_s {β : Type} (z : β) (N : Nat) (a_n : Nat) (a_l : Nat) (a_c : Nat) (h0 : List (Nat × Nat)) (h1 : List (List Int)) (k : Int) (i : Int) (kn : Int → Int → β) (k0 : β) (k1 : Int → β) : β :=
  cond (a_l.ble 9223372036854775807) (cond (decide (i < (↑a_l : Int))) (cond (a_n.beq h0.length && (decide (0 ≤ i) && decide (i < (↑a_l : Int)))) (cond (a_n.beq h0.length && i.toNat.blt h0.length) (w_heldInt64S_s6 z N ((h0[i.toNat]?.getD (0, 0)).fst) 0 ((h0[i.toNat]?.getD (0, 0)).snd) ((h0[i.toNat]?.getD (0, 0)).snd) ((h0[i.toNat]?.getD (0, 0)).snd) k h1 (fun q11 => cond (decide (q11 < 0)) (k0) (cond (fits IntKind.i64 (i + 1)) (kn q11 (i + 1)) (z)))) (z)) (z)) (k1 k)) (z)
def w_heldInt64SS_l0_s2 {β : Type} (z : β) (N : Nat) (a_n : Nat) (a_l : Nat) (a_c : Nat) (h0 : List (Nat × Nat)) (h1 : List (List Int)) : Nat → Int → Int → β → (Int → β) → β
  | 0, _, _, _, _ => z
  | m + 1, k, i, k0, k1 => w_heldInt64SS_l0_s2_s z N a_n a_l a_c h0 h1 k i (fun k i => w_heldInt64SS_l0_s2 z N a_n a_l a_c h0 h1 m k i k0 k1) k0 k1

/-- laws.heldInt64SS -/
def w_heldInt64SS_s2 {β : Type} (z : β) (N : Nat) (a_n : Nat) (a_l : Nat) (a_c : Nat) (k : Int) (h0 : List (Nat × Nat)) (h1 : List (List Int)) (k0 : Int → β) : β :=
  w_heldInt64SS_l0_s2 z N a_n a_l a_c h0 h1 N k 0 (k0 (-1)) (fun q9 => k0 q9)

/-- laws.eqInt64SS, loop -/
def w_eqInt64SS_l0_s3_s {β : Type} (z : β) (b_n : Nat) (b_l : Nat) (b_c : Nat) (i : Int) (h0 : List (Nat × Nat)) (h1 : List (List Int))  (kn : β) (k0 : β) : β :=
  cond (decide (i < 0)) (z) (k0)
def w_eqInt64SS_l0_s3 {β : Type} (z : β) (b_n : Nat) (b_l : Nat) (b_c : Nat) (i : Int) (h0 : List (Nat × Nat)) (h1 : List (List Int)) : Nat → β → β
  | 0, _ => z
  | m + 1, k0 => w_eqInt64SS_l0_s3_s z b_n b_l b_c i h0 h1 (w_eqInt64SS_l0_s3 z b_n b_l b_c i h0 h1 m k0) k0

/-- laws.eqInt64SS -/
def w_eqInt64SS_s3 {β : Type} (z : β) (N : Nat) (b_n : Nat) (b_l : Nat) (b_c : Nat) (h0 : List (Nat × Nat)) (h1 : List (List Int)) (k0 : Bool → β) : β :=
  cond (b_l.ble 9223372036854775807) (cond (0 != (↑b_l : Int)) (k0 false) (w_eqInt64SS_l0_s3 z b_n b_l b_c 0 h0 h1 N (k0 true))) (z)

/-- laws.eqInt64S, loop -/
def w_eqInt64S_l0_s12_s {β : Type} (z : β) (a_r : Nat) (a_o : Nat) (a_n : Nat) (a_l : Nat) (a_c : Nat) (b_r : Nat) (b_o : Nat) (b_n : Nat) (b_l : Nat) (b_c : Nat) (h0 : List (List Int)) (h1 : List (List Int)) (i : Int) (kn : Int → β) (k0 : β) (k1 : β) : β :=
  cond (a_l.ble 9223372036854775807) (cond (decide (i < (↑a_l : Int))) (cond (a_n.beq (h0[a_r]?.getD []).length && (decide (0 ≤ i) && decide (i < (↑a_l : Int)))) (cond (a_n.beq (h0[a_r]?.getD []).length && (addO a_o i.toNat).blt (h0[a_r]?.getD []).length) (cond (b_n.beq (h1[b_r]?.getD []).length && (decide (0 ≤ i) && decide (i < (↑b_l : Int)))) (cond (b_n.beq (h1[b_r]?.getD []).length && (addO b_o i.toNat).blt (h1[b_r]?.getD []).length) (cond ((h0[a_r]?.getD [])[addO a_o i.toNat]?.getD 0 != (h1[b_r]?.getD [])[addO b_o i.toNat]?.getD 0) (k0) (cond (fits IntKind.i64 (i + 1)) (kn (i + 1)) (z))) (z)) (z)) (z)) (z)) (k1)) (z)
def w_eqInt64S_l0_s12 {β : Type} (z : β) (a_r : Nat) (a_o : Nat) (a_n : Nat) (a_l : Nat) (a_c : Nat) (b_r : Nat) (b_o : Nat) (b_n : Nat) (b_l : Nat) (b_c : Nat) (h0 : List (List Int)) (h1 : List (List Int)) : Nat → Int → β → β → β
  | 0, _, _, _ => z
  | m + 1, i, k0, k1 => w_eqInt64S_l0_s12_s z a_r a_o a_n a_l a_c b_r b_o b_n b_l b_c h0 h1 i (fun i => w_eqInt64S_l0_s12 z a_r a_o a_n a_l a_c b_r b_o b_n b_l b_c h0 h1 m i k0 k1) k0 k1

/-- laws.eqInt64S -/
def w_eqInt64S_s14 {β : Type} (z : β) (N : Nat) (a_r : Nat) (a_o : Nat) (a_n : Nat) (a_l : Nat) (a_c : Nat) (b_r : Nat) (b_o : Nat) (b_n : Nat) (b_l : Nat) (b_c : Nat) (h0 : List (List Int)) (h1 : List (List Int)) (k0 : Bool → β) : β :=
  cond (a_l.ble 9223372036854775807) (cond (b_l.ble 9223372036854775807) (cond ((↑a_l : Int) != (↑b_l : Int)) (k0 false) (w_eqInt64S_l0_s12 z a_r a_o a_n a_l a_c b_r b_o b_n b_l b_c h0 h1 N 0 (k0 false) (k0 true))) (z)) (z)

/-- laws.eqInt64SS, loop -/
def w_eqInt64SS_l0_s4_s {β : Type} (z : β) (N : Nat) (a_n : Nat) (a_l : Nat) (a_c : Nat) (b_n : Nat) (b_l : Nat) (b_c : Nat) (h0 : List (Nat × Nat)) (h1 : List (Nat × Nat)) (h2 : List (List Int)) (h3 : List (List Int)) (i : Int) (kn : Int → β) (k0 : β) (k1 : β) : β :=
  cond (a_l.ble 9223372036854775807) (cond (decide (i < (↑a_l : Int))) (cond (a_n.beq h0.length && (decide (0 ≤ i) && decide (i < (↑a_l : Int)))) (cond (a_n.beq h0.length && i.toNat.blt h0.length) (cond (b_n.beq h1.length && (decide (0 ≤ i) && decide (i < (↑b_l : Int)))) (cond (b_n.beq h1.length && i.toNat.blt h1.length) (w_eqInt64S_s14 z N ((h0[i.toNat]?.getD (0, 0)).fst) 0 ((h0[i.toNat]?.getD (0, 0)).snd) ((h0[i.toNat]?.getD (0, 0)).snd) ((h0[i.toNat]?.getD (0, 0)).snd) ((h1[i.toNat]?.getD (0, 0)).fst) 0 ((h1[i.toNat]?.getD (0, 0)).snd) ((h1[i.toNat]?.getD (0, 0)).snd) ((h1[i.toNat]?.getD (0, 0)).snd) h2 h3 (fun q15 => cond (!q15) (k0) (cond (fits IntKind.i64 (i + 1)) (kn (i + 1)) (z)))) (z)) (z)) (z)) (z)) (k1)) (z)
def w_eqInt64SS_l0_s4 {β : Type} (z : β) (N : Nat) (a_n : Nat) (a_l : Nat) (a_c : Nat) (b_n : Nat) (b_l : Nat) (b_c : Nat) (h0 : List (Nat × Nat)) (h1 : List (Nat × Nat)) (h2 : List (List Int)) (h3 : List (List Int)) : Nat → Int → β → β → β
  | 0, _, _, _ => z
  | m + 1, i, k0, k1 => w_eqInt64SS_l0_s4_s z N a_n a_l a_c b_n b_l b_c h0 h1 h2 h3 i (fun i => w_eqInt64SS_l0_s4 z N a_n a_l a_c b_n b_l b_c h0 h1 h2 h3 m i k0 k1) k0 k1

/-- laws.eqInt64SS -/
def w_eqInt64SS_s4 {β : Type} (z : β) (N : Nat) (a_n : Nat) (a_l : Nat) (a_c : Nat) (b_n : Nat) (b_l : Nat) (b_c : Nat) (h0 : List (Nat × Nat)) (h1 : List (Nat × Nat)) (h2 : List (List Int)) (h3 : List (List Int)) (k0 : Bool → β) : β :=
  cond (a_l.ble 9223372036854775807) (cond (b_l.ble 9223372036854775807) (cond ((↑a_l : Int) != (↑b_l : Int)) (k0 false) (w_eqInt64SS_l0_s4 z N a_n a_l a_c b_n b_l b_c h0 h1 h2 h3 N 0 (k0 false) (k0 true))) (z)) (z)

/-- laws.FnExactRelationsOf -/
def w_FnExactRelationsOf {β : Type} (z : β) (N : Nat) (aG_0 : Int) (aG_1 : Nat → Int) (aG_2 : Nat → Int) (k0 : Bool → β) : β :=
  w_toGrid z N aG_0 aG_1 aG_2 (fun q6 q7 => s_RelationsOf z N aG_0 q6 q7 (fun q8 => w_toGrid z N aG_0 aG_1 aG_2 (fun q9 q10 => i_RelationsOf z N aG_0 q9 q10 (fun q11 => w_eqInt64SS z N (fun q12 => cond (!q12) (k0 false) (cond (q11 != q8) (k0 false) (w_markInt64SS z N 1 (w_heldInt64SS z N 1 (w_toGrid z N aG_0 aG_1 aG_2 (fun q13 q14 => i_RelationsOf z N aG_0 q13 q14 (fun q15 => w_eqInt64SS z N (fun q16 => cond (!q16) (k0 false) (cond (q15 != q8) (k0 false) (w_heldInt64SS z N 1 (k0 true))))) (fun q15 q16 q17 q18 q19 q20 => w_eqInt64SS_s2 z N q15 q16 q17 q19 q20 (fun q21 => cond (!q21) (k0 false) (cond (q18 != q8) (k0 false) (w_heldInt64SS z N 1 (k0 true)))))))))))) (fun q11 q12 q13 q14 q15 q16 => w_eqInt64SS_s2 z N q11 q12 q13 q15 q16 (fun q17 => cond (!q17) (k0 false) (cond (q14 != q8) (k0 false) (w_markInt64SS_s2 z N q11 q12 q13 1 q15 q16 (fun q18 q19 => w_heldInt64SS_s2 z N q11 q12 q13 1 q15 q19 (fun q20 => cond (decide (q20 < 0)) (k0 false) (cond (q20 != q18) (k0 false) (w_toGrid z N aG_0 aG_1 aG_2 (fun q21 q22 => i_RelationsOf z N aG_0 q21 q22 (fun q23 => w_eqInt64SS z N (fun q24 => cond (!q24) (k0 false) (cond (q23 != q8) (k0 false) (w_heldInt64SS_s2 z N q11 q12 q13 1 q15 q19 (fun q25 => cond (decide (q25 < 0)) (k0 false) (cond (q25 != q18) (k0 false) (k0 true))))))) (fun q23 q24 q25 q26 q27 q28 => w_eqInt64SS_s2 z N q23 q24 q25 q27 q28 (fun q29 => cond (!q29) (k0 false) (cond (q26 != q8) (k0 false) (w_heldInt64SS_s2 z N q11 q12 q13 1 q15 q19 (fun q30 => cond (decide (q30 < 0)) (k0 false) (cond (q30 != q18) (k0 false) (k0 true)))))))))))))))))) (fun q8 q9 q10 q11 q12 q13 => w_toGrid z N aG_0 aG_1 aG_2 (fun q14 q15 => i_RelationsOf z N aG_0 q14 q15 (fun q16 => w_eqInt64SS_s3 z N q8 q9 q10 q12 q13 (fun q17 => cond (!q17) (k0 false) (cond (q16 != q11) (k0 false) (w_markInt64SS z N 1 (w_heldInt64SS z N 1 (w_toGrid z N aG_0 aG_1 aG_2 (fun q18 q19 => i_RelationsOf z N aG_0 q18 q19 (fun q20 => w_eqInt64SS_s3 z N q8 q9 q10 q12 q13 (fun q21 => cond (!q21) (k0 false) (cond (q20 != q11) (k0 false) (w_heldInt64SS z N 1 (k0 true))))) (fun q20 q21 q22 q23 q24 q25 => w_eqInt64SS_s4 z N q20 q21 q22 q8 q9 q10 q24 q12 q25 q13 (fun q26 => cond (!q26) (k0 false) (cond (q23 != q11) (k0 false) (w_heldInt64SS z N 1 (k0 true)))))))))))) (fun q16 q17 q18 q19 q20 q21 => w_eqInt64SS_s4 z N q16 q17 q18 q8 q9 q10 q20 q12 q21 q13 (fun q22 => cond (!q22) (k0 false) (cond (q19 != q11) (k0 false) (w_markInt64SS_s2 z N q16 q17 q18 1 q20 q21 (fun q23 q24 => w_heldInt64SS_s2 z N q16 q17 q18 1 q20 q24 (fun q25 => cond (decide (q25 < 0)) (k0 false) (cond (q25 != q23) (k0 false) (w_toGrid z N aG_0 aG_1 aG_2 (fun q26 q27 => i_RelationsOf z N aG_0 q26 q27 (fun q28 => w_eqInt64SS_s3 z N q8 q9 q10 q12 q13 (fun q29 => cond (!q29) (k0 false) (cond (q28 != q11) (k0 false) (w_heldInt64SS_s2 z N q16 q17 q18 1 q20 q24 (fun q30 => cond (decide (q30 < 0)) (k0 false) (cond (q30 != q23) (k0 false) (k0 true))))))) (fun q28 q29 q30 q31 q32 q33 => w_eqInt64SS_s4 z N q28 q29 q30 q8 q9 q10 q32 q12 q33 q13 (fun q34 => cond (!q34) (k0 false) (cond (q31 != q11) (k0 false) (w_heldInt64SS_s2 z N q16 q17 q18 1 q20 q24 (fun q35 => cond (decide (q35 < 0)) (k0 false) (cond (q35 != q23) (k0 false) (k0 true)))))))))))))))))))
end Go.AM

set_option maxRecDepth 100000
namespace Go.AM
/-- spec.CountTiles, loop -/
def s_CountTiles_l0_s {β : Type} (z : β) (h0_0 : Int) (h0_1 : Nat → Int) (k : Int) (h1 : Nat → Int) (kn : Int → (Nat → Int) → β) (k0 : (Nat → Int) → β) : β :=
  cond (fits IntKind.i64 (h0_0 * h0_0)) (cond (decide (k < h0_0 * h0_0)) (cond (decide (0 ≤ k) && decide (k < (↑64 : Int))) (cond (k.toNat.blt 64) (cond (decide (0 ≤ h0_1 k.toNat) && decide (h0_1 k.toNat < (↑8 : Int))) (cond ((h0_1 k.toNat).toNat.blt 8) (cond (fits IntKind.i64 (h1 (h0_1 k.toNat).toNat + 1)) (cond (decide (0 ≤ h0_1 k.toNat) && decide (h0_1 k.toNat < (↑8 : Int))) (cond ((h0_1 k.toNat).toNat.blt 8) (cond (fits IntKind.i64 (k + 1)) (kn (k + 1) (upd h1 (h0_1 k.toNat).toNat (h1 (h0_1 k.toNat).toNat + 1))) (z)) (z)) (z)) (z)) (z)) (z)) (z)) (z)) (k0 h1)) (z)
def s_CountTiles_l0 {β : Type} (z : β) (h0_0 : Int) (h0_1 : Nat → Int) : Nat → Int → (Nat → Int) → ((Nat → Int) → β) → β
  | 0, _, _, _ => z
  | m + 1, k, h1, k0 => s_CountTiles_l0_s z h0_0 h0_1 k h1 (fun k h1 => s_CountTiles_l0 z h0_0 h0_1 m k h1 k0) k0

/-- spec.CountTiles -/
def s_CountTiles {β : Type} (z : β) (N : Nat) (m_0 : Int) (m_1 : Nat → Int) (k0 : Int → β) (k1 : Int → (Nat → Int) → β) : β :=
  s_l09Is z N m_0 m_1 (fun q5 => cond (!q5) (k0 1) (s_CountTiles_l0 z m_0 m_1 N 0 (fun (x : Nat) => 0) (fun q6 => k1 0 q6)))

/-- impl.CountTiles, loop -/
def i_CountTiles_l0_s {β : Type} (z : β) (t17_n : Nat) (t17_l : Nat) (t17_c : Nat) (t18 : Int) (h0_0 : Int) (h0_1 : Nat → Int) (t19 : Int) (h1 : Nat → Int) (kn : Int → (Nat → Int) → β) (k0 : (Nat → Int) → β) : β :=
  cond (decide (t19 < t18)) (cond (t17_n.beq 64 && (decide (0 ≤ t19) && decide (t19 < (↑t17_l : Int)))) (cond (t17_n.beq 64 && t19.toNat.blt 64) (cond (decide (0 ≤ h0_1 t19.toNat) && decide (h0_1 t19.toNat < (↑8 : Int))) (cond ((h0_1 t19.toNat).toNat.blt 8) (cond (fits IntKind.i64 (h1 (h0_1 t19.toNat).toNat + 1)) (cond (decide (0 ≤ h0_1 t19.toNat) && decide (h0_1 t19.toNat < (↑8 : Int))) (cond ((h0_1 t19.toNat).toNat.blt 8) (cond (fits IntKind.i64 (t19 + 1)) (kn (t19 + 1) (upd h1 (h0_1 t19.toNat).toNat (h1 (h0_1 t19.toNat).toNat + 1))) (z)) (z)) (z)) (z)) (z)) (z)) (z)) (z)) (k0 h1)
def i_CountTiles_l0 {β : Type} (z : β) (t17_n : Nat) (t17_l : Nat) (t17_c : Nat) (t18 : Int) (h0_0 : Int) (h0_1 : Nat → Int) : Nat → Int → (Nat → Int) → ((Nat → Int) → β) → β
  | 0, _, _, _ => z
  | m + 1, t19, h1, k0 => i_CountTiles_l0_s z t17_n t17_l t17_c t18 h0_0 h0_1 t19 h1 (fun t19 h1 => i_CountTiles_l0 z t17_n t17_l t17_c t18 h0_0 h0_1 m t19 h1 k0) k0

/-- impl.CountTiles -/
def i_CountTiles {β : Type} (z : β) (N : Nat) (m_0 : Int) (m_1 : Nat → Int) (k0 : Int → β) (k1 : Int → (Nat → Int) → β) : β :=
  i_IsMosaic z N m_0 m_1 (fun q5 => cond (!q5) (k0 1) (cond (fits IntKind.i64 (m_0 * m_0)) (cond (decide (0 ≤ m_0 * m_0) && decide (m_0 * m_0 ≤ (↑64 : Int)) && true) (cond (((m_0 * m_0).toNat - 0).ble 9223372036854775807) (i_CountTiles_l0 z 64 ((m_0 * m_0).toNat - 0) 64 (↑((m_0 * m_0).toNat - 0) : Int) m_0 m_1 N 0 (fun (x : Nat) => 0) (fun q6 => k1 0 q6)) (z)) (z)) (z)))

/-- laws.eqInt64S, loop -/
def w_eqInt64S_l0_s {β : Type} (z : β) (i : Int)  (kn : β) (k0 : β) : β :=
  cond (decide (i < 0)) (z) (k0)
def w_eqInt64S_l0 {β : Type} (z : β) (i : Int) : Nat → β → β
  | 0, _ => z
  | m + 1, k0 => w_eqInt64S_l0_s z i (w_eqInt64S_l0 z i m k0) k0

/-- laws.eqInt64S -/
def w_eqInt64S {β : Type} (z : β) (N : Nat)  (k0 : Bool → β) : β :=
  w_eqInt64S_l0 z 0 N (k0 true)

/-- laws.markInt64S, loop -/
def w_markInt64S_l0_s {β : Type} (z : β) (k : Int) (i : Int)  (kn : β) (k0 : β) : β :=
  cond (decide (i < 0)) (z) (k0)
def w_markInt64S_l0 {β : Type} (z : β) (k : Int) (i : Int) : Nat → β → β
  | 0, _ => z
  | m + 1, k0 => w_markInt64S_l0_s z k i (w_markInt64S_l0 z k i m k0) k0

/-- laws.markInt64S -/
def w_markInt64S {β : Type} (z : β) (N : Nat) (k : Int) (k0 : β) : β :=
  w_markInt64S_l0 z k 0 N k0

/-- laws.heldInt64S, loop -/
def w_heldInt64S_l0_s {β : Type} (z : β) (k : Int) (i : Int)  (kn : β) (k0 : β) : β :=
  cond (decide (i < 0)) (z) (k0)
def w_heldInt64S_l0 {β : Type} (z : β) (k : Int) (i : Int) : Nat → β → β
  | 0, _ => z
  | m + 1, k0 => w_heldInt64S_l0_s z k i (w_heldInt64S_l0 z k i m k0) k0

/-- laws.heldInt64S -/
def w_heldInt64S {β : Type} (z : β) (N : Nat) (k : Int) (k0 : β) : β :=
  w_heldInt64S_l0 z k 0 N k0

/-- laws.eqInt64S, loop -/
def w_eqInt64S_l0_s6_s {β : Type} (z : β) (a_n : Nat) (a_l : Nat) (a_c : Nat) (i : Int) (h0_n : Nat) (h0 : Nat → Int)  (kn : β) (k0 : β) : β :=
  cond (a_l.ble 9223372036854775807) (cond (decide (i < (↑a_l : Int))) (cond (a_n.beq h0_n && (decide (0 ≤ i) && decide (i < (↑a_l : Int)))) (cond (a_n.beq h0_n && i.toNat.blt h0_n) (z) (z)) (z)) (k0)) (z)
def w_eqInt64S_l0_s6 {β : Type} (z : β) (a_n : Nat) (a_l : Nat) (a_c : Nat) (i : Int) (h0_n : Nat) (h0 : Nat → Int) : Nat → β → β
  | 0, _ => z
  | m + 1, k0 => w_eqInt64S_l0_s6_s z a_n a_l a_c i h0_n h0 (w_eqInt64S_l0_s6 z a_n a_l a_c i h0_n h0 m k0) k0

/-- laws.eqInt64S -/
def w_eqInt64S_s8 {β : Type} (z : β) (N : Nat) (a_n : Nat) (a_l : Nat) (a_c : Nat) (h0_n : Nat) (h0 : Nat → Int) (k0 : Bool → β) : β :=
  cond (a_l.ble 9223372036854775807) (cond ((↑a_l : Int) != 0) (k0 false) (w_eqInt64S_l0_s6 z a_n a_l a_c 0 h0_n h0 N (k0 true))) (z)

/-- laws.markInt64S, loop -/
def w_markInt64S_l0_s4_s {β : Type} (z : β) (a_n : Nat) (a_l : Nat) (a_c : Nat) (h0_n : Nat) (k : Int) (i : Int) (h0 : Nat → Int) (kn : Int → Int → (Nat → Int) → β) (k0 : Int → (Nat → Int) → β) : β :=
  cond (a_l.ble 9223372036854775807) (cond (decide (i < (↑a_l : Int))) (cond (a_n.beq h0_n && (decide (0 ≤ i) && decide (i < (↑a_l : Int)))) (cond (a_n.beq h0_n && i.toNat.blt h0_n) (cond (fits IntKind.i64 (k + 1)) (cond (fits IntKind.i64 (i + 1)) (kn (k + 1) (i + 1) (upd h0 i.toNat k)) (z)) (z)) (z)) (z)) (k0 k h0)) (z)
def w_markInt64S_l0_s4 {β : Type} (z : β) (a_n : Nat) (a_l : Nat) (a_c : Nat) (h0_n : Nat) : Nat → Int → Int → (Nat → Int) → (Int → (Nat → Int) → β) → β
  | 0, _, _, _, _ => z
  | m + 1, k, i, h0, k0 => w_markInt64S_l0_s4_s z a_n a_l a_c h0_n k i h0 (fun k i h0 => w_markInt64S_l0_s4 z a_n a_l a_c h0_n m k i h0 k0) k0

/-- laws.markInt64S -/
def w_markInt64S_s4 {β : Type} (z : β) (N : Nat) (a_n : Nat) (a_l : Nat) (a_c : Nat) (k : Int) (h0_n : Nat) (h0 : Nat → Int) (k0 : Int → (Nat → Int) → β) : β :=
  w_markInt64S_l0_s4 z a_n a_l a_c h0_n N k 0 h0 (fun q9 q10 => k0 q9 q10)

/-- laws.heldInt64S, loop -/
def w_heldInt64S_l0_s4_s {β : Type} (z : β) (a_n : Nat) (a_l : Nat) (a_c : Nat) (h0_n : Nat) (h0 : Nat → Int) (k : Int) (i : Int) (kn : Int → Int → β) (k0 : β) (k1 : Int → β) : β :=
  cond (a_l.ble 9223372036854775807) (cond (decide (i < (↑a_l : Int))) (cond (a_n.beq h0_n && (decide (0 ≤ i) && decide (i < (↑a_l : Int)))) (cond (a_n.beq h0_n && i.toNat.blt h0_n) (cond (h0 i.toNat != k) (k0) (cond (fits IntKind.i64 (k + 1)) (cond (fits IntKind.i64 (i + 1)) (kn (k + 1) (i + 1)) (z)) (z))) (z)) (z)) (k1 k)) (z)
def w_heldInt64S_l0_s4 {β : Type} (z : β) (a_n : Nat) (a_l : Nat) (a_c : Nat) (h0_n : Nat) (h0 : Nat → Int) : Nat → Int → Int → β → (Int → β) → β
  | 0, _, _, _, _ => z
  | m + 1, k, i, k0, k1 => w_heldInt64S_l0_s4_s z a_n a_l a_c h0_n h0 k i (fun k i => w_heldInt64S_l0_s4 z a_n a_l a_c h0_n h0 m k i k0 k1) k0 k1

/-- laws.heldInt64S -/
def w_heldInt64S_s4 {β : Type} (z : β) (N : Nat) (a_n : Nat) (a_l : Nat) (a_c : Nat) (k : Int) (h0_n : Nat) (h0 : Nat → Int) (k0 : Int → β) : β :=
  w_heldInt64S_l0_s4 z a_n a_l a_c h0_n h0 N k 0 (k0 (-1)) (fun q9 => k0 q9)

/-- laws.eqInt64S, loop -/
def w_eqInt64S_l0_s7_s {β : Type} (z : β) (b_n : Nat) (b_l : Nat) (b_c : Nat) (i : Int) (h0_n : Nat) (h0 : Nat → Int)  (kn : β) (k0 : β) : β :=
  cond (decide (i < 0)) (z) (k0)
def w_eqInt64S_l0_s7 {β : Type} (z : β) (b_n : Nat) (b_l : Nat) (b_c : Nat) (i : Int) (h0_n : Nat) (h0 : Nat → Int) : Nat → β → β
  | 0, _ => z
  | m + 1, k0 => w_eqInt64S_l0_s7_s z b_n b_l b_c i h0_n h0 (w_eqInt64S_l0_s7 z b_n b_l b_c i h0_n h0 m k0) k0

/-- laws.eqInt64S -/
def w_eqInt64S_s9 {β : Type} (z : β) (N : Nat) (b_n : Nat) (b_l : Nat) (b_c : Nat) (h0_n : Nat) (h0 : Nat → Int) (k0 : Bool → β) : β :=
  cond (b_l.ble 9223372036854775807) (cond (0 != (↑b_l : Int)) (k0 false) (w_eqInt64S_l0_s7 z b_n b_l b_c 0 h0_n h0 N (k0 true))) (z)

/-- laws.eqInt64S, loop -/
def w_eqInt64S_l0_s8_s {β : Type} (z : β) (a_n : Nat) (a_l : Nat) (a_c : Nat) (b_n : Nat) (b_l : Nat) (b_c : Nat) (h0_n : Nat) (h0 : Nat → Int) (h1_n : Nat) (h1 : Nat → Int) (i : Int) (kn : Int → β) (k0 : β) (k1 : β) : β :=
  cond (a_l.ble 9223372036854775807) (cond (decide (i < (↑a_l : Int))) (cond (a_n.beq h0_n && (decide (0 ≤ i) && decide (i < (↑a_l : Int)))) (cond (a_n.beq h0_n && i.toNat.blt h0_n) (cond (b_n.beq h1_n && (decide (0 ≤ i) && decide (i < (↑b_l : Int)))) (cond (b_n.beq h1_n && i.toNat.blt h1_n) (cond (h0 i.toNat != h1 i.toNat) (k0) (cond (fits IntKind.i64 (i + 1)) (kn (i + 1)) (z))) (z)) (z)) (z)) (z)) (k1)) (z)
def w_eqInt64S_l0_s8 {β : Type} (z : β) (a_n : Nat) (a_l : Nat) (a_c : Nat) (b_n : Nat) (b_l : Nat) (b_c : Nat) (h0_n : Nat) (h0 : Nat → Int) (h1_n : Nat) (h1 : Nat → Int) : Nat → Int → β → β → β
  | 0, _, _, _ => z
  | m + 1, i, k0, k1 => w_eqInt64S_l0_s8_s z a_n a_l a_c b_n b_l b_c h0_n h0 h1_n h1 i (fun i => w_eqInt64S_l0_s8 z a_n a_l a_c b_n b_l b_c h0_n h0 h1_n h1 m i k0 k1) k0 k1

/-- laws.eqInt64S -/
def w_eqInt64S_s10 {β : Type} (z : β) (N : Nat) (a_n : Nat) (a_l : Nat) (a_c : Nat) (b_n : Nat) (b_l : Nat) (b_c : Nat) (h0_n : Nat) (h0 : Nat → Int) (h1_n : Nat) (h1 : Nat → Int) (k0 : Bool → β) : β :=
  cond (a_l.ble 9223372036854775807) (cond (b_l.ble 9223372036854775807) (cond ((↑a_l : Int) != (↑b_l : Int)) (k0 false) (w_eqInt64S_l0_s8 z a_n a_l a_c b_n b_l b_c h0_n h0 h1_n h1 N 0 (k0 false) (k0 true))) (z)) (z)

/-- laws.FnExactCountTiles -/
def w_FnExactCountTiles {β : Type} (z : β) (N : Nat) (aM_0 : Int) (aM_1 : Nat → Int) (k0 : Bool → β) : β :=
  w_toMosaic z N aM_0 aM_1 (fun q5 => s_CountTiles z N aM_0 q5 (fun q6 => w_toMosaic z N aM_0 aM_1 (fun q7 => i_CountTiles z N aM_0 q7 (fun q8 => w_eqInt64S z N (fun q9 => cond (!q9) (k0 false) (cond (q8 != q6) (k0 false) (w_markInt64S z N 1 (w_heldInt64S z N 1 (w_toMosaic z N aM_0 aM_1 (fun q10 => i_CountTiles z N aM_0 q10 (fun q11 => w_eqInt64S z N (fun q12 => cond (!q12) (k0 false) (cond (q11 != q6) (k0 false) (w_heldInt64S z N 1 (k0 true))))) (fun q11 q12 => w_eqInt64S_s8 z N 8 8 8 8 q12 (fun q13 => cond (!q13) (k0 false) (cond (q11 != q6) (k0 false) (w_heldInt64S z N 1 (k0 true)))))))))))) (fun q8 q9 => w_eqInt64S_s8 z N 8 8 8 8 q9 (fun q10 => cond (!q10) (k0 false) (cond (q8 != q6) (k0 false) (w_markInt64S_s4 z N 8 8 8 1 8 q9 (fun q11 q12 => w_heldInt64S_s4 z N 8 8 8 1 8 q12 (fun q13 => cond (decide (q13 < 0)) (k0 false) (cond (q13 != q11) (k0 false) (w_toMosaic z N aM_0 aM_1 (fun q14 => i_CountTiles z N aM_0 q14 (fun q15 => w_eqInt64S z N (fun q16 => cond (!q16) (k0 false) (cond (q15 != q6) (k0 false) (w_heldInt64S_s4 z N 8 8 8 1 8 q12 (fun q17 => cond (decide (q17 < 0)) (k0 false) (cond (q17 != q11) (k0 false) (k0 true))))))) (fun q15 q16 => w_eqInt64S_s8 z N 8 8 8 8 q16 (fun q17 => cond (!q17) (k0 false) (cond (q15 != q6) (k0 false) (w_heldInt64S_s4 z N 8 8 8 1 8 q12 (fun q18 => cond (decide (q18 < 0)) (k0 false) (cond (q18 != q11) (k0 false) (k0 true)))))))))))))))))) (fun q6 q7 => w_toMosaic z N aM_0 aM_1 (fun q8 => i_CountTiles z N aM_0 q8 (fun q9 => w_eqInt64S_s9 z N 8 8 8 8 q7 (fun q10 => cond (!q10) (k0 false) (cond (q9 != q6) (k0 false) (w_markInt64S z N 1 (w_heldInt64S z N 1 (w_toMosaic z N aM_0 aM_1 (fun q11 => i_CountTiles z N aM_0 q11 (fun q12 => w_eqInt64S_s9 z N 8 8 8 8 q7 (fun q13 => cond (!q13) (k0 false) (cond (q12 != q6) (k0 false) (w_heldInt64S z N 1 (k0 true))))) (fun q12 q13 => w_eqInt64S_s10 z N 8 8 8 8 8 8 8 q13 8 q7 (fun q14 => cond (!q14) (k0 false) (cond (q12 != q6) (k0 false) (w_heldInt64S z N 1 (k0 true)))))))))))) (fun q9 q10 => w_eqInt64S_s10 z N 8 8 8 8 8 8 8 q10 8 q7 (fun q11 => cond (!q11) (k0 false) (cond (q9 != q6) (k0 false) (w_markInt64S_s4 z N 8 8 8 1 8 q10 (fun q12 q13 => w_heldInt64S_s4 z N 8 8 8 1 8 q13 (fun q14 => cond (decide (q14 < 0)) (k0 false) (cond (q14 != q12) (k0 false) (w_toMosaic z N aM_0 aM_1 (fun q15 => i_CountTiles z N aM_0 q15 (fun q16 => w_eqInt64S_s9 z N 8 8 8 8 q7 (fun q17 => cond (!q17) (k0 false) (cond (q16 != q6) (k0 false) (w_heldInt64S_s4 z N 8 8 8 1 8 q13 (fun q18 => cond (decide (q18 < 0)) (k0 false) (cond (q18 != q12) (k0 false) (k0 true))))))) (fun q16 q17 => w_eqInt64S_s10 z N 8 8 8 8 8 8 8 q17 8 q7 (fun q18 => cond (!q18) (k0 false) (cond (q16 != q6) (k0 false) (w_heldInt64S_s4 z N 8 8 8 1 8 q13 (fun q19 => cond (decide (q19 < 0)) (k0 false) (cond (q19 != q12) (k0 false) (k0 true)))))))))))))))))))
end Go.AM

set_option maxRecDepth 100000
namespace Go.AM
/-- laws.toInt64S, loop -/
def w_toInt64S_l0_s {β : Type} (z : β) (a_n : Nat) (a_l : Nat) (a_c : Nat) (out_n : Nat) (out_l : Nat) (out_c : Nat) (h0_n : Nat) (h0 : Nat → Int) (h1_n : Nat) (i : Int) (h1 : Nat → Int) (kn : Int → (Nat → Int) → β) (k0 : (Nat → Int) → β) : β :=
  cond (a_l.ble 9223372036854775807) (cond (decide (i < (↑a_l : Int))) (cond (a_n.beq h0_n && (decide (0 ≤ i) && decide (i < (↑a_l : Int)))) (cond (a_n.beq h0_n && i.toNat.blt h0_n) (cond (out_n.beq h1_n && (decide (0 ≤ i) && decide (i < (↑out_l : Int)))) (cond (out_n.beq h1_n && i.toNat.blt h1_n) (cond (fits IntKind.i64 (i + 1)) (kn (i + 1) (upd h1 i.toNat (h0 i.toNat))) (z)) (z)) (z)) (z)) (z)) (k0 h1)) (z)
def w_toInt64S_l0 {β : Type} (z : β) (a_n : Nat) (a_l : Nat) (a_c : Nat) (out_n : Nat) (out_l : Nat) (out_c : Nat) (h0_n : Nat) (h0 : Nat → Int) (h1_n : Nat) : Nat → Int → (Nat → Int) → ((Nat → Int) → β) → β
  | 0, _, _, _ => z
  | m + 1, i, h1, k0 => w_toInt64S_l0_s z a_n a_l a_c out_n out_l out_c h0_n h0 h1_n i h1 (fun i h1 => w_toInt64S_l0 z a_n a_l a_c out_n out_l out_c h0_n h0 h1_n m i h1 k0) k0

/-- laws.toInt64S -/
def w_toInt64S {β : Type} (z : β) (N : Nat) (a_n : Nat) (a_l : Nat) (a_c : Nat) (h0_n : Nat) (h0 : Nat → Int) (k0 : Nat → Nat → Nat → Nat → (Nat → Int) → β) : β :=
  cond (a_l.ble 9223372036854775807) (cond (decide ((↑a_l : Int) ≤ (↑a_l : Int)) && decide ((↑a_l : Int) ≤ 1073741824) && true && true) (w_toInt64S_l0 z a_n a_l a_c ((↑a_l : Int).toNat) ((↑a_l : Int).toNat) ((↑a_l : Int).toNat) h0_n h0 ((↑a_l : Int).toNat) N 0 (fun (x : Nat) => 0) (fun q8 => k0 ((↑a_l : Int).toNat) ((↑a_l : Int).toNat) ((↑a_l : Int).toNat) ((↑a_l : Int).toNat) q8)) (z)) (z)

/-- spec.l08Prime, loop -/
def s_l08Prime_l0_s {β : Type} (z : β) (p : Int) (k : Int) (kn : Int → β) (k0 : β) (k1 : β) : β :=
  cond (decide (k < p)) (cond (!k == 0) (cond (p.tmod k == 0) (k0) (cond (fits IntKind.i64 (k + 1)) (kn (k + 1)) (z))) (z)) (k1)
def s_l08Prime_l0 {β : Type} (z : β) (p : Int) : Nat → Int → β → β → β
  | 0, _, _, _ => z
  | m + 1, k, k0, k1 => s_l08Prime_l0_s z p k (fun k => s_l08Prime_l0 z p m k k0 k1) k0 k1

/-- spec.l08Prime -/
def s_l08Prime {β : Type} (z : β) (N : Nat) (p : Int) (k0 : Bool → β) : β :=
  s_l01In z N p 3 97 (fun q4 => cond (!q4) (k0 false) (s_l08Prime_l0 z p N 2 (k0 false) (k0 true)))

/-- spec.l08Code -/
def s_l08Code {β : Type} (z : β) (N : Nat) (g_0 : Int) (g_1 : Nat → Int) (g_2 : Nat → Int) (p : Int) (k0 : Int → β) : β :=
  s_l01Is z N g_0 g_1 g_2 (fun q7 => cond (!q7) (k0 1) (s_l08Prime z N p (fun q8 => cond (!q8) (k0 2) (k0 0))))

/-- spec.IsColouring, loop -/
def s_IsColouring_l0_s {β : Type} (z : β) (N : Nat) (p : Int) (colours_n : Nat) (colours_l : Nat) (colours_c : Nat) (h0_n : Nat) (h0 : Nat → Int) (h1_0 : Int) (h1_1 : Nat → Int) (h1_2 : Nat → Int) (code : Int) (i : Int) (kn : Int → Int → β) (k0 : Int → β) : β :=
  cond (colours_l.ble 9223372036854775807) (cond (decide (i < (↑colours_l : Int))) (cond (code == 0) (cond (colours_n.beq h0_n && (decide (0 ≤ i) && decide (i < (↑colours_l : Int)))) (cond (colours_n.beq h0_n && i.toNat.blt h0_n) (cond (fits IntKind.i64 (p - 1)) (s_l01In z N (h0 i.toNat) 0 (p - 1) (fun q15 => cond (!q15) (cond (fits IntKind.i64 (i + 1)) (kn 2 (i + 1)) (z)) (cond (fits IntKind.i64 (i + 1)) (kn code (i + 1)) (z)))) (z)) (z)) (z)) (k0 code)) (k0 code)) (z)
def s_IsColouring_l0 {β : Type} (z : β) (N : Nat) (p : Int) (colours_n : Nat) (colours_l : Nat) (colours_c : Nat) (h0_n : Nat) (h0 : Nat → Int) (h1_0 : Int) (h1_1 : Nat → Int) (h1_2 : Nat → Int) : Nat → Int → Int → (Int → β) → β
  | 0, _, _, _ => z
  | m + 1, code, i, k0 => s_IsColouring_l0_s z N p colours_n colours_l colours_c h0_n h0 h1_0 h1_1 h1_2 code i (fun code i => s_IsColouring_l0 z N p colours_n colours_l colours_c h0_n h0 h1_0 h1_1 h1_2 m code i k0) k0

/-- spec.l08Good, loop -/
def s_l08Good_l1_s {β : Type} (z : β) (p : Int) (colours_n : Nat) (colours_l : Nat) (colours_c : Nat) (r_ : Int) (list_n : Nat) (list_l : Nat) (list_c : Nat) (h0_n : Nat) (h0 : Nat → Int) (h1_0 : Int) (h1_1 : Nat → Int) (h1_2 : Nat → Int) (h2 : List Int) (sum : Int) (i : Int) (kn : Int → Int → β) (k0 : Int → β) : β :=
  cond (list_l.ble 9223372036854775807) (cond (decide (i < (↑list_l : Int))) (cond (list_n.beq h2.length && (decide (0 ≤ i) && decide (i < (↑list_l : Int)))) (cond (list_n.beq h2.length && i.toNat.blt h2.length) (cond (colours_n.beq h0_n && (decide (0 ≤ h2[i.toNat]?.getD 0) && decide (h2[i.toNat]?.getD 0 < (↑colours_l : Int)))) (cond (colours_n.beq h0_n && (h2[i.toNat]?.getD 0).toNat.blt h0_n) (cond (fits IntKind.i64 (2 * i.tmod 2)) (cond (fits IntKind.i64 (1 - 2 * i.tmod 2)) (cond (fits IntKind.i64 (h0 (h2[i.toNat]?.getD 0).toNat * (1 - 2 * i.tmod 2))) (cond (fits IntKind.i64 (sum + h0 (h2[i.toNat]?.getD 0).toNat * (1 - 2 * i.tmod 2))) (cond (fits IntKind.i64 (i + 1)) (kn (sum + h0 (h2[i.toNat]?.getD 0).toNat * (1 - 2 * i.tmod 2)) (i + 1)) (z)) (z)) (z)) (z)) (z)) (z)) (z)) (z)) (z)) (k0 sum)) (z)
def s_l08Good_l1 {β : Type} (z : β) (p : Int) (colours_n : Nat) (colours_l : Nat) (colours_c : Nat) (r_ : Int) (list_n : Nat) (list_l : Nat) (list_c : Nat) (h0_n : Nat) (h0 : Nat → Int) (h1_0 : Int) (h1_1 : Nat → Int) (h1_2 : Nat → Int) (h2 : List Int) : Nat → Int → Int → (Int → β) → β
  | 0, _, _, _ => z
  | m + 1, sum, i, k0 => s_l08Good_l1_s z p colours_n colours_l colours_c r_ list_n list_l list_c h0_n h0 h1_0 h1_1 h1_2 h2 sum i (fun sum i => s_l08Good_l1 z p colours_n colours_l colours_c r_ list_n list_l list_c h0_n h0 h1_0 h1_1 h1_2 h2 m sum i k0) k0

/-- spec.l08Good, loop -/
def s_l08Good_l0_s {β : Type} (z : β) (N : Nat) (p : Int) (colours_n : Nat) (colours_l : Nat) (colours_c : Nat) (h0_n : Nat) (h0 : Nat → Int) (h1_0 : Int) (h1_1 : Nat → Int) (h1_2 : Nat → Int) (r_ : Int) (kn : Int → β) (k0 : β) (k1 : β) : β :=
  cond (fits IntKind.i64 (h1_0 - 1)) (cond (decide (r_ < h1_0 - 1)) (s_l08Relation z N h1_0 h1_1 h1_2 r_ (fun q14 q15 q16 q17 => s_l08Good_l1 z p colours_n colours_l colours_c r_ q14 q15 q16 h0_n h0 h1_0 h1_1 h1_2 q17 N 0 0 (fun q18 => cond (!p == 0) (cond (q18.tmod p != 0) (k0) (cond (fits IntKind.i64 (r_ + 1)) (kn (r_ + 1)) (z))) (z)))) (k1)) (z)
def s_l08Good_l0 {β : Type} (z : β) (N : Nat) (p : Int) (colours_n : Nat) (colours_l : Nat) (colours_c : Nat) (h0_n : Nat) (h0 : Nat → Int) (h1_0 : Int) (h1_1 : Nat → Int) (h1_2 : Nat → Int) : Nat → Int → β → β → β
  | 0, _, _, _ => z
  | m + 1, r_, k0, k1 => s_l08Good_l0_s z N p colours_n colours_l colours_c h0_n h0 h1_0 h1_1 h1_2 r_ (fun r_ => s_l08Good_l0 z N p colours_n colours_l colours_c h0_n h0 h1_0 h1_1 h1_2 m r_ k0 k1) k0 k1

/-- spec.l08Good -/
def s_l08Good {β : Type} (z : β) (N : Nat) (g_0 : Int) (g_1 : Nat → Int) (g_2 : Nat → Int) (p : Int) (colours_n : Nat) (colours_l : Nat) (colours_c : Nat) (h0_n : Nat) (h0 : Nat → Int) (k0 : Bool → β) : β :=
  s_l08Good_l0 z N p colours_n colours_l colours_c h0_n h0 g_0 g_1 g_2 N 0 (k0 false) (k0 true)

/-- spec.IsColouring -/
def s_IsColouring {β : Type} (z : β) (N : Nat) (g_0 : Int) (g_1 : Nat → Int) (g_2 : Nat → Int) (p : Int) (colours_n : Nat) (colours_l : Nat) (colours_c : Nat) (h0_n : Nat) (h0 : Nat → Int) (k0 : Bool → Int → β) : β :=
  s_l08Code z N g_0 g_1 g_2 p (fun q12 => cond (q12 == 0) (cond (colours_l.ble 9223372036854775807) (cond ((↑colours_l : Int) != g_0) (s_IsColouring_l0 z N p colours_n colours_l colours_c h0_n h0 g_0 g_1 g_2 N 2 0 (fun q13 => cond (q13 != 0) (k0 false q13) (s_l08Good z N g_0 g_1 g_2 p colours_n colours_l colours_c h0_n h0 (fun q14 => k0 q14 0)))) (s_IsColouring_l0 z N p colours_n colours_l colours_c h0_n h0 g_0 g_1 g_2 N q12 0 (fun q13 => cond (q13 != 0) (k0 false q13) (s_l08Good z N g_0 g_1 g_2 p colours_n colours_l colours_c h0_n h0 (fun q14 => k0 q14 0))))) (z)) (s_IsColouring_l0 z N p colours_n colours_l colours_c h0_n h0 g_0 g_1 g_2 N q12 0 (fun q13 => cond (q13 != 0) (k0 false q13) (s_l08Good z N g_0 g_1 g_2 p colours_n colours_l colours_c h0_n h0 (fun q14 => k0 q14 0)))))

/-- impl.isPrime, loop -/
def i_isPrime_l0_s {β : Type} (z : β) (p : Int) (d : Int) (kn : Int → β) (k0 : β) (k1 : β) : β :=
  cond (fits IntKind.i64 (d * d)) (cond (decide (d * d ≤ p)) (cond (!d == 0) (cond (p.tmod d == 0) (k0) (cond (fits IntKind.i64 (d + 1)) (kn (d + 1)) (z))) (z)) (k1)) (z)
def i_isPrime_l0 {β : Type} (z : β) (p : Int) : Nat → Int → β → β → β
  | 0, _, _, _ => z
  | m + 1, d, k0, k1 => i_isPrime_l0_s z p d (fun d => i_isPrime_l0 z p m d k0 k1) k0 k1

/-- impl.isPrime -/
def i_isPrime {β : Type} (z : β) (N : Nat) (p : Int) (k0 : Bool → β) : β :=
  i_within z N p 3 97 (fun q4 => cond (!q4) (k0 false) (i_isPrime_l0 z p N 2 (k0 false) (k0 true)))

/-- impl.IsColouring$1 -/
def i_IsColouring_1 {β : Type} (z : β) (N : Nat) (c : Int) (h0 : Int) (k0 : Bool → β) : β :=
  cond (fits IntKind.i64 (h0 - 1)) (i_within z N c 0 (h0 - 1) (fun q5 => k0 (!q5))) (z)

/-- slices.IndexFunc[[]int64,int64], loop -/
def slices_IndexFunc_int64_int64_l0_s {β : Type} (z : β) (N : Nat) (s_n : Nat) (s_l : Nat) (s_c : Nat) (t7 : Int) (h0_n : Nat) (h0 : Nat → Int) (h1 : Int) (t8 : Int) (kn : Int → β) (k0 : Int → β) (k1 : β) : β :=
  cond (decide (t8 < t7)) (cond (s_n.beq h0_n && (decide (0 ≤ t8) && decide (t8 < (↑s_l : Int)))) (cond (s_n.beq h0_n && t8.toNat.blt h0_n) (i_IsColouring_1 z N (h0 t8.toNat) h1 (fun q12 => cond (q12) (k0 t8) (cond (fits IntKind.i64 (t8 + 1)) (kn (t8 + 1)) (z)))) (z)) (z)) (k1)
def slices_IndexFunc_int64_int64_l0 {β : Type} (z : β) (N : Nat) (s_n : Nat) (s_l : Nat) (s_c : Nat) (t7 : Int) (h0_n : Nat) (h0 : Nat → Int) (h1 : Int) : Nat → Int → (Int → β) → β → β
  | 0, _, _, _ => z
  | m + 1, t8, k0, k1 => slices_IndexFunc_int64_int64_l0_s z N s_n s_l s_c t7 h0_n h0 h1 t8 (fun t8 => slices_IndexFunc_int64_int64_l0 z N s_n s_l s_c t7 h0_n h0 h1 m t8 k0 k1) k0 k1

/-- slices.IndexFunc[[]int64,int64] -/
def slices_IndexFunc_int64_int64 {β : Type} (z : β) (N : Nat) (s_n : Nat) (s_l : Nat) (s_c : Nat) (h0_n : Nat) (h0 : Nat → Int) (h1 : Int) (k0 : Int → β) : β :=
  cond (s_l.ble 9223372036854775807) (slices_IndexFunc_int64_int64_l0 z N s_n s_l s_c (↑s_l : Int) h0_n h0 h1 N 0 (fun q9 => k0 q9) (k0 (-1))) (z)

/-- slices.ContainsFunc[[]int64,int64] -/
def slices_ContainsFunc_int64_int64 {β : Type} (z : β) (N : Nat) (s_n : Nat) (s_l : Nat) (s_c : Nat) (h0_n : Nat) (h0 : Nat → Int) (h1 : Int) (k0 : Bool → β) : β :=
  slices_IndexFunc_int64_int64 z N s_n s_l s_c h0_n h0 h1 (fun q9 => k0 (decide (0 ≤ q9)))

/-- (impl.Grid).equations, loop -/
def i_Grid_equations_l1_s {β : Type} (z : β) (out_n : Nat) (out_l : Nat) (out_c : Nat) (line_n : Nat) (line_l : Nat) (line_c : Nat) (t12_n : Nat) (t12_l : Nat) (t12_c : Nat) (t13 : Int) (t14 : Int) (t21_r : Nat) (t21_o : Nat) (t21_n : Nat) (t21_l : Nat) (t21_c : Nat) (t22 : Int) (h0_0 : Int) (h0_1 : Nat → Int) (h0_2 : Nat → Int) (h1 : List (List Int)) (h2 : List (Nat × Nat)) (h3 : List (Nat × Nat)) (h4 : List (List Int)) (h5_n : Nat) (sign : Int) (t23 : Int) (h5 : Nat → Int) (kn : Int → Int → (Nat → Int) → β) (k0 : (Nat → Int) → β) : β :=
  cond (decide (t23 < t22)) (cond (t21_n.beq (h4[t21_r]?.getD []).length && (decide (0 ≤ t23) && decide (t23 < (↑t21_l : Int)))) (cond (t21_n.beq (h4[t21_r]?.getD []).length && (addO t21_o t23.toNat).blt (h4[t21_r]?.getD []).length) (cond (line_n.beq h5_n && (decide (0 ≤ (h4[t21_r]?.getD [])[addO t21_o t23.toNat]?.getD 0) && decide ((h4[t21_r]?.getD [])[addO t21_o t23.toNat]?.getD 0 < (↑line_l : Int)))) (cond (line_n.beq h5_n && ((h4[t21_r]?.getD [])[addO t21_o t23.toNat]?.getD 0).toNat.blt h5_n) (cond (fits IntKind.i64 (-sign)) (cond (fits IntKind.i64 (t23 + 1)) (kn (-sign) (t23 + 1) (upd h5 ((h4[t21_r]?.getD [])[addO t21_o t23.toNat]?.getD 0).toNat sign)) (z)) (z)) (z)) (z)) (z)) (z)) (k0 h5)
def i_Grid_equations_l1 {β : Type} (z : β) (out_n : Nat) (out_l : Nat) (out_c : Nat) (line_n : Nat) (line_l : Nat) (line_c : Nat) (t12_n : Nat) (t12_l : Nat) (t12_c : Nat) (t13 : Int) (t14 : Int) (t21_r : Nat) (t21_o : Nat) (t21_n : Nat) (t21_l : Nat) (t21_c : Nat) (t22 : Int) (h0_0 : Int) (h0_1 : Nat → Int) (h0_2 : Nat → Int) (h1 : List (List Int)) (h2 : List (Nat × Nat)) (h3 : List (Nat × Nat)) (h4 : List (List Int)) (h5_n : Nat) : Nat → Int → Int → (Nat → Int) → ((Nat → Int) → β) → β
  | 0, _, _, _, _ => z
  | m + 1, sign, t23, h5, k0 => i_Grid_equations_l1_s z out_n out_l out_c line_n line_l line_c t12_n t12_l t12_c t13 t14 t21_r t21_o t21_n t21_l t21_c t22 h0_0 h0_1 h0_2 h1 h2 h3 h4 h5_n sign t23 h5 (fun sign t23 h5 => i_Grid_equations_l1 z out_n out_l out_c line_n line_l line_c t12_n t12_l t12_c t13 t14 t21_r t21_o t21_n t21_l t21_c t22 h0_0 h0_1 h0_2 h1 h2 h3 h4 h5_n m sign t23 h5 k0) k0

/-- (impl.Grid).equations, loop -/
def i_Grid_equations_l0_s {β : Type} (z : β) (N : Nat) (t12_n : Nat) (t12_l : Nat) (t12_c : Nat) (t13 : Int) (h0_0 : Int) (h0_1 : Nat → Int) (h0_2 : Nat → Int) (h3 : List (Nat × Nat)) (h4 : List (List Int)) (out_n : Nat) (out_l : Nat) (out_c : Nat) (t14 : Int) (h1 : List (List Int)) (h2 : List (Nat × Nat)) (kn : Nat → Nat → Nat → Int → (List (List Int)) → (List (Nat × Nat)) → β) (k0 : Nat → Nat → Nat → (List (List Int)) → (List (Nat × Nat)) → β) : β :=
  cond (decide (t14 < t13)) (cond (t12_n.beq h3.length && (decide (0 ≤ t14) && decide (t14 < (↑t12_l : Int)))) (cond (t12_n.beq h3.length && t14.toNat.blt h3.length) (i_Grid_n z N h0_0 h0_1 h0_2 (cond (decide (0 ≤ h0_0) && decide (h0_0 ≤ h0_0) && decide (h0_0 ≤ 1073741824) && true && true) (cond ((h3[t14.toNat]?.getD (0, 0)).snd.ble 9223372036854775807) (i_Grid_equations_l1 z out_n out_l out_c h0_0.toNat h0_0.toNat h0_0.toNat t12_n t12_l t12_c t13 t14 ((h3[t14.toNat]?.getD (0, 0)).fst) 0 ((h3[t14.toNat]?.getD (0, 0)).snd) ((h3[t14.toNat]?.getD (0, 0)).snd) ((h3[t14.toNat]?.getD (0, 0)).snd) (↑(h3[t14.toNat]?.getD (0, 0)).snd : Int) h0_0 h0_1 h0_2 h1 h2 h3 h4 h0_0.toNat N 1 0 (fun (x : Nat) => 0) (fun q19 => cond (h0_0.toNat.beq (List.map q19 (List.range h0_0.toNat)).length && (h0_0.toNat.beq h0_0.toNat && (h0_0.toNat.beq h0_0.toNat && true))) (cond (out_n.beq h2.length && true) (cond ((out_l + 1).ble 1099511627776 && ((out_l + 1) * 24).ble 1099511627776) (cond ((out_l + 1).ble out_c) (cond (out_n.beq h2.length && (0 + out_l + 1).ble h2.length) (cond (fits IntKind.i64 (t14 + 1)) (kn out_n (out_l + 1) out_c (t14 + 1) (h1 ++ [List.map q19 (List.range h0_0.toNat)]) (List.take (0 + out_l) h2 ++ ([(h1.length, h0_0.toNat)] ++ List.drop (0 + out_l + 1) h2))) (z)) (z)) (cond (out_l.beq h2.length) (cond (fits IntKind.i64 (t14 + 1)) (kn ((h2 ++ [(h1.length, h0_0.toNat)]).length) (out_l + 1) (out_l + 1) (t14 + 1) (h1 ++ [List.map q19 (List.range h0_0.toNat)]) (h2 ++ [(h1.length, h0_0.toNat)])) (z)) (z))) (z)) (z)) (z))) (z)) (z))) (z)) (z)) (k0 out_n out_l out_c h1 h2)
def i_Grid_equations_l0 {β : Type} (z : β) (N : Nat) (t12_n : Nat) (t12_l : Nat) (t12_c : Nat) (t13 : Int) (h0_0 : Int) (h0_1 : Nat → Int) (h0_2 : Nat → Int) (h3 : List (Nat × Nat)) (h4 : List (List Int)) : Nat → Nat → Nat → Nat → Int → (List (List Int)) → (List (Nat × Nat)) → (Nat → Nat → Nat → (List (List Int)) → (List (Nat × Nat)) → β) → β
  | 0, _, _, _, _, _, _, _ => z
  | m + 1, out_n, out_l, out_c, t14, h1, h2, k0 => i_Grid_equations_l0_s z N t12_n t12_l t12_c t13 h0_0 h0_1 h0_2 h3 h4 out_n out_l out_c t14 h1 h2 (fun out_n out_l out_c t14 h1 h2 => i_Grid_equations_l0 z N t12_n t12_l t12_c t13 h0_0 h0_1 h0_2 h3 h4 m out_n out_l out_c t14 h1 h2 k0) k0

/-- (impl.Grid).equations -/
def i_Grid_equations {β : Type} (z : β) (N : Nat) (g_0 : Int) (g_1 : Nat → Int) (g_2 : Nat → Int) (k0 : Nat → Nat → Nat → (List (Nat × Nat)) → (List (List Int)) → β) : β :=
  i_Grid_relations z N g_0 g_1 g_2 (fun q6 q7 q8 q9 q10 => cond (q7.ble 9223372036854775807) (i_Grid_equations_l0 z N q6 q7 q8 (↑q7 : Int) g_0 g_1 g_2 q9 q10 N 0 0 0 0 (List.replicate 0 []) (List.map (fun (i : Nat) => (i, 0)) (List.range 0)) (fun q11 q12 q13 q14 q15 => k0 q11 q12 q13 q15 q14)) (z))

/-- impl.IsColouring, loop -/
def i_IsColouring_l1_s {β : Type} (z : β) (colours_n : Nat) (colours_l : Nat) (colours_c : Nat) (t34_n : Nat) (t34_l : Nat) (t34_c : Nat) (t35 : Int) (t36 : Int) (t40_r : Nat) (t40_o : Nat) (t40_n : Nat) (t40_l : Nat) (t40_c : Nat) (t41 : Int) (h0_n : Nat) (h0 : Nat → Int) (h1_0 : Int) (h1_1 : Nat → Int) (h1_2 : Nat → Int) (h2 : Int) (h3 : List (Nat × Nat)) (h4 : List (List Int)) (sum : Int) (t42 : Int) (kn : Int → Int → β) (k0 : Int → β) : β :=
  cond (decide (t42 < t41)) (cond (t40_n.beq (h4[t40_r]?.getD []).length && (decide (0 ≤ t42) && decide (t42 < (↑t40_l : Int)))) (cond (t40_n.beq (h4[t40_r]?.getD []).length && (addO t40_o t42.toNat).blt (h4[t40_r]?.getD []).length) (cond (colours_n.beq h0_n && (decide (0 ≤ t42) && decide (t42 < (↑colours_l : Int)))) (cond (colours_n.beq h0_n && t42.toNat.blt h0_n) (cond (fits IntKind.i64 ((h4[t40_r]?.getD [])[addO t40_o t42.toNat]?.getD 0 * h0 t42.toNat)) (cond (fits IntKind.i64 (sum + (h4[t40_r]?.getD [])[addO t40_o t42.toNat]?.getD 0 * h0 t42.toNat)) (cond (fits IntKind.i64 (t42 + 1)) (kn (sum + (h4[t40_r]?.getD [])[addO t40_o t42.toNat]?.getD 0 * h0 t42.toNat) (t42 + 1)) (z)) (z)) (z)) (z)) (z)) (z)) (z)) (k0 sum)
def i_IsColouring_l1 {β : Type} (z : β) (colours_n : Nat) (colours_l : Nat) (colours_c : Nat) (t34_n : Nat) (t34_l : Nat) (t34_c : Nat) (t35 : Int) (t36 : Int) (t40_r : Nat) (t40_o : Nat) (t40_n : Nat) (t40_l : Nat) (t40_c : Nat) (t41 : Int) (h0_n : Nat) (h0 : Nat → Int) (h1_0 : Int) (h1_1 : Nat → Int) (h1_2 : Nat → Int) (h2 : Int) (h3 : List (Nat × Nat)) (h4 : List (List Int)) : Nat → Int → Int → (Int → β) → β
  | 0, _, _, _ => z
  | m + 1, sum, t42, k0 => i_IsColouring_l1_s z colours_n colours_l colours_c t34_n t34_l t34_c t35 t36 t40_r t40_o t40_n t40_l t40_c t41 h0_n h0 h1_0 h1_1 h1_2 h2 h3 h4 sum t42 (fun sum t42 => i_IsColouring_l1 z colours_n colours_l colours_c t34_n t34_l t34_c t35 t36 t40_r t40_o t40_n t40_l t40_c t41 h0_n h0 h1_0 h1_1 h1_2 h2 h3 h4 m sum t42 k0) k0

/-- impl.IsColouring, loop -/
def i_IsColouring_l0_s {β : Type} (z : β) (N : Nat) (colours_n : Nat) (colours_l : Nat) (colours_c : Nat) (t34_n : Nat) (t34_l : Nat) (t34_c : Nat) (t35 : Int) (h0_n : Nat) (h0 : Nat → Int) (h1_0 : Int) (h1_1 : Nat → Int) (h1_2 : Nat → Int) (h2 : Int) (h3 : List (Nat × Nat)) (h4 : List (List Int)) (t36 : Int) (kn : Int → β) (k0 : β) (k1 : β) : β :=
  cond (decide (t36 < t35)) (cond (t34_n.beq h3.length && (decide (0 ≤ t36) && decide (t36 < (↑t34_l : Int)))) (cond (t34_n.beq h3.length && t36.toNat.blt h3.length) (cond ((h3[t36.toNat]?.getD (0, 0)).snd.ble 9223372036854775807) (i_IsColouring_l1 z colours_n colours_l colours_c t34_n t34_l t34_c t35 t36 ((h3[t36.toNat]?.getD (0, 0)).fst) 0 ((h3[t36.toNat]?.getD (0, 0)).snd) ((h3[t36.toNat]?.getD (0, 0)).snd) ((h3[t36.toNat]?.getD (0, 0)).snd) (↑(h3[t36.toNat]?.getD (0, 0)).snd : Int) h0_n h0 h1_0 h1_1 h1_2 h2 h3 h4 N 0 0 (fun q20 => cond (!h2 == 0) (cond (q20.tmod h2 != 0) (k0) (cond (fits IntKind.i64 (t36 + 1)) (kn (t36 + 1)) (z))) (z))) (z)) (z)) (z)) (k1)
def i_IsColouring_l0 {β : Type} (z : β) (N : Nat) (colours_n : Nat) (colours_l : Nat) (colours_c : Nat) (t34_n : Nat) (t34_l : Nat) (t34_c : Nat) (t35 : Int) (h0_n : Nat) (h0 : Nat → Int) (h1_0 : Int) (h1_1 : Nat → Int) (h1_2 : Nat → Int) (h2 : Int) (h3 : List (Nat × Nat)) (h4 : List (List Int)) : Nat → Int → β → β → β
  | 0, _, _, _ => z
  | m + 1, t36, k0, k1 => i_IsColouring_l0_s z N colours_n colours_l colours_c t34_n t34_l t34_c t35 h0_n h0 h1_0 h1_1 h1_2 h2 h3 h4 t36 (fun t36 => i_IsColouring_l0 z N colours_n colours_l colours_c t34_n t34_l t34_c t35 h0_n h0 h1_0 h1_1 h1_2 h2 h3 h4 m t36 k0 k1) k0 k1

/-- impl.IsColouring -/
def i_IsColouring {β : Type} (z : β) (N : Nat) (g_0 : Int) (g_1 : Nat → Int) (g_2 : Nat → Int) (p : Int) (colours_n : Nat) (colours_l : Nat) (colours_c : Nat) (h0_n : Nat) (h0 : Nat → Int) (k0 : Bool → Int → β) : β :=
  i_IsGrid z N g_0 g_1 g_2 (fun q12 => cond (!q12) (k0 false 1) (i_isPrime z N p (fun q13 => cond (!q13) (k0 false 2) (cond (colours_l.ble 9223372036854775807) (i_Grid_n z N g_0 g_1 g_2 (cond ((↑colours_l : Int) != g_0) (k0 false 2) (slices_ContainsFunc_int64_int64 z N colours_n colours_l colours_c h0_n h0 p (fun q14 => cond (q14) (k0 false 2) (i_Grid_equations z N g_0 g_1 g_2 (fun q15 q16 q17 q18 q19 => cond (q16.ble 9223372036854775807) (i_IsColouring_l0 z N colours_n colours_l colours_c q15 q16 q17 (↑q16 : Int) h0_n h0 g_0 g_1 g_2 p q18 q19 N 0 (k0 false 0) (k0 true 0)) (z))))))) (z)))))

/-- laws.FnExactIsColouring -/
def w_FnExactIsColouring {β : Type} (z : β) (N : Nat) (aG_0 : Int) (aG_1 : Nat → Int) (aG_2 : Nat → Int) (aP : Int) (aColours_n : Nat) (aColours_l : Nat) (aColours_c : Nat) (h0_n : Nat) (h0 : Nat → Int) (k0 : Bool → β) : β :=
  cond (aColours_l.ble 9223372036854775807) (cond (decide (1048576 < (↑aColours_l : Int))) (k0 true) (w_toGrid z N aG_0 aG_1 aG_2 (fun q12 q13 => w_toInt64S z N aColours_n aColours_l aColours_c h0_n h0 (fun q14 q15 q16 q17 q18 => s_IsColouring z N aG_0 q12 q13 aP q14 q15 q16 q17 q18 (fun q19 q20 => w_toInt64S z N aColours_n aColours_l aColours_c h0_n h0 (fun q21 q22 q23 q24 q25 => w_toGrid z N aG_0 aG_1 aG_2 (fun q26 q27 => i_IsColouring z N aG_0 q26 q27 aP q21 q22 q23 q24 q25 (fun q28 q29 => cond (q28 != q19) (k0 false) (cond (q29 != q20) (k0 false) (w_toInt64S z N aColours_n aColours_l aColours_c h0_n h0 (fun q30 q31 q32 q33 q34 => w_eqInt64S_s10 z N q21 q22 q23 q30 q31 q32 q24 q25 q33 q34 (fun q35 => cond (!q35) (k0 false) (k0 true))))))))))))) (z)
end Go.AM

set_option maxRecDepth 100000
namespace Go.AM
/-- spec.l08Rows, loop -/
def s_l08Rows_l1_s {β : Type} (z : β) (p : Int) (rows_n : Nat) (rows_l : Nat) (rows_c : Nat) (r_ : Int) (row_n : Nat) (row_l : Nat) (row_c : Nat) (list_n : Nat) (list_l : Nat) (list_c : Nat) (h0_0 : Int) (h0_1 : Nat → Int) (h0_2 : Nat → Int) (h1 : List (List Int)) (h2 : List (Nat × Nat)) (h3_n : Nat) (h4 : List Int) (i : Int) (h3 : Nat → Int) (kn : Int → (Nat → Int) → β) (k0 : (Nat → Int) → β) : β :=
  cond (list_l.ble 9223372036854775807) (cond (decide (i < (↑list_l : Int))) (cond (list_n.beq h4.length && (decide (0 ≤ i) && decide (i < (↑list_l : Int)))) (cond (list_n.beq h4.length && i.toNat.blt h4.length) (cond (fits IntKind.i64 (p + 1)) (cond (fits IntKind.i64 (2 * i.tmod 2)) (cond (fits IntKind.i64 (p + 1 - 2 * i.tmod 2)) (cond (!p == 0) (cond (row_n.beq h3_n && (decide (0 ≤ h4[i.toNat]?.getD 0) && decide (h4[i.toNat]?.getD 0 < (↑row_l : Int)))) (cond (row_n.beq h3_n && (h4[i.toNat]?.getD 0).toNat.blt h3_n) (cond (fits IntKind.i64 (i + 1)) (kn (i + 1) (upd h3 (h4[i.toNat]?.getD 0).toNat ((p + 1 - 2 * i.tmod 2).tmod p))) (z)) (z)) (z)) (z)) (z)) (z)) (z)) (z)) (z)) (k0 h3)) (z)
def s_l08Rows_l1 {β : Type} (z : β) (p : Int) (rows_n : Nat) (rows_l : Nat) (rows_c : Nat) (r_ : Int) (row_n : Nat) (row_l : Nat) (row_c : Nat) (list_n : Nat) (list_l : Nat) (list_c : Nat) (h0_0 : Int) (h0_1 : Nat → Int) (h0_2 : Nat → Int) (h1 : List (List Int)) (h2 : List (Nat × Nat)) (h3_n : Nat) (h4 : List Int) : Nat → Int → (Nat → Int) → ((Nat → Int) → β) → β
  | 0, _, _, _ => z
  | m + 1, i, h3, k0 => s_l08Rows_l1_s z p rows_n rows_l rows_c r_ row_n row_l row_c list_n list_l list_c h0_0 h0_1 h0_2 h1 h2 h3_n h4 i h3 (fun i h3 => s_l08Rows_l1 z p rows_n rows_l rows_c r_ row_n row_l row_c list_n list_l list_c h0_0 h0_1 h0_2 h1 h2 h3_n h4 m i h3 k0) k0

/-- spec.l08Rows, loop -/
def s_l08Rows_l0_s {β : Type} (z : β) (N : Nat) (p : Int) (h0_0 : Int) (h0_1 : Nat → Int) (h0_2 : Nat → Int) (rows_n : Nat) (rows_l : Nat) (rows_c : Nat) (r_ : Int) (h1 : List (List Int)) (h2 : List (Nat × Nat)) (kn : Nat → Nat → Nat → Int → (List (List Int)) → (List (Nat × Nat)) → β) (k0 : Nat → Nat → Nat → (List (List Int)) → (List (Nat × Nat)) → β) : β :=
  cond (fits IntKind.i64 (h0_0 - 1)) (cond (decide (r_ < h0_0 - 1)) (cond (decide (0 ≤ h0_0) && decide (h0_0 ≤ h0_0) && decide (h0_0 ≤ 1073741824) && true && true) (s_l08Relation z N h0_0 h0_1 h0_2 r_ (fun q14 q15 q16 q17 => s_l08Rows_l1 z p rows_n rows_l rows_c r_ h0_0.toNat h0_0.toNat h0_0.toNat q14 q15 q16 h0_0 h0_1 h0_2 h1 h2 h0_0.toNat q17 N 0 (fun (x : Nat) => 0) (fun q18 => cond (h0_0.toNat.beq (List.map q18 (List.range h0_0.toNat)).length && (h0_0.toNat.beq h0_0.toNat && (h0_0.toNat.beq h0_0.toNat && true))) (cond (rows_n.beq h2.length && true) (cond ((rows_l + 1).ble 1099511627776 && ((rows_l + 1) * 24).ble 1099511627776) (cond ((rows_l + 1).ble rows_c) (cond (rows_n.beq h2.length && (0 + rows_l + 1).ble h2.length) (cond (fits IntKind.i64 (r_ + 1)) (kn rows_n (rows_l + 1) rows_c (r_ + 1) (h1 ++ [List.map q18 (List.range h0_0.toNat)]) (List.take (0 + rows_l) h2 ++ ([(h1.length, h0_0.toNat)] ++ List.drop (0 + rows_l + 1) h2))) (z)) (z)) (cond (rows_l.beq h2.length) (cond (fits IntKind.i64 (r_ + 1)) (kn ((h2 ++ [(h1.length, h0_0.toNat)]).length) (rows_l + 1) (rows_l + 1) (r_ + 1) (h1 ++ [List.map q18 (List.range h0_0.toNat)]) (h2 ++ [(h1.length, h0_0.toNat)])) (z)) (z))) (z)) (z)) (z)))) (z)) (k0 rows_n rows_l rows_c h1 h2)) (z)
def s_l08Rows_l0 {β : Type} (z : β) (N : Nat) (p : Int) (h0_0 : Int) (h0_1 : Nat → Int) (h0_2 : Nat → Int) : Nat → Nat → Nat → Nat → Int → (List (List Int)) → (List (Nat × Nat)) → (Nat → Nat → Nat → (List (List Int)) → (List (Nat × Nat)) → β) → β
  | 0, _, _, _, _, _, _, _ => z
  | m + 1, rows_n, rows_l, rows_c, r_, h1, h2, k0 => s_l08Rows_l0_s z N p h0_0 h0_1 h0_2 rows_n rows_l rows_c r_ h1 h2 (fun rows_n rows_l rows_c r_ h1 h2 => s_l08Rows_l0 z N p h0_0 h0_1 h0_2 m rows_n rows_l rows_c r_ h1 h2 k0) k0

/-- spec.l08Rows -/
def s_l08Rows {β : Type} (z : β) (N : Nat) (g_0 : Int) (g_1 : Nat → Int) (g_2 : Nat → Int) (p : Int) (k0 : Nat → Nat → Nat → (List (Nat × Nat)) → (List (List Int)) → β) : β :=
  s_l08Rows_l0 z N p g_0 g_1 g_2 N 0 0 0 0 (List.replicate 0 []) (List.map (fun (i : Nat) => (i, 0)) (List.range 0)) (fun q7 q8 q9 q10 q11 => k0 q7 q8 q9 q11 q10)

/-- spec.l01Own -/
def s_l01Own {β : Type} (z : β) (N : Nat) (list_r : Nat) (list_o : Nat) (list_n : Nat) (list_l : Nat) (list_c : Nat) (h0 : List (List Int)) (k0 : (List Int) → β) (k1 : Nat → Nat → Nat → (List Int) → β) (k2 : Nat → Nat → Nat → (List Int) → β) : β :=
  cond (list_n.beq (h0[list_r]?.getD []).length && (list_o + list_l).ble (h0[list_r]?.getD []).length) (cond (list_l.beq 0) (k0 (List.replicate 0 0)) (cond ((0 + list_l).ble 1099511627776 && ((0 + list_l) * 8).ble 1099511627776) (cond ((0 + list_l).ble 0) (cond ((0 + (fromTo (h0[list_r]?.getD []) list_o list_l).length).ble 0) (k1 0 (0 + list_l) 0 (List.take 0 (List.replicate 0 0) ++ (fromTo (h0[list_r]?.getD []) list_o list_l ++ List.drop (0 + (fromTo (h0[list_r]?.getD []) list_o list_l).length) (List.replicate 0 0)))) (z)) (k2 ((fromTo (List.replicate 0 0) 0 0 ++ fromTo (h0[list_r]?.getD []) list_o list_l).length) (0 + list_l) (0 + list_l) (fromTo (List.replicate 0 0) 0 0 ++ fromTo (h0[list_r]?.getD []) list_o list_l))) (z))) (z)

/-- spec.l08Reduce, loop -/
def s_l08Reduce_l0_s {β : Type} (z : β) (N : Nat) (rows_n : Nat) (rows_l : Nat) (rows_c : Nat) (t1 : Int) (h0 : List (Nat × Nat)) (h1 : List (List Int)) (t5_n : Nat) (t5_l : Nat) (t5_c : Nat) (t6 : Int) (h2 : List (List Int)) (h3 : List (Nat × Nat)) (kn : Nat → Nat → Nat → Int → (List (List Int)) → (List (Nat × Nat)) → β) (k0 : Nat → Nat → Nat → (List (List Int)) → (List (Nat × Nat)) → β) : β :=
  cond (rows_l.ble 9223372036854775807) (cond (decide (t6 < (↑rows_l : Int))) (cond (rows_n.beq h0.length && (decide (0 ≤ t6) && decide (t6 < (↑rows_l : Int)))) (cond (rows_n.beq h0.length && t6.toNat.blt h0.length) (s_l01Own z N ((h0[t6.toNat]?.getD (0, 0)).fst) 0 ((h0[t6.toNat]?.getD (0, 0)).snd) ((h0[t6.toNat]?.getD (0, 0)).snd) ((h0[t6.toNat]?.getD (0, 0)).snd) h1 (fun q16 => cond (Nat.beq 0 q16.length && true) (cond (t5_n.beq h3.length && true) (cond ((t5_l + 1).ble 1099511627776 && ((t5_l + 1) * 24).ble 1099511627776) (cond ((t5_l + 1).ble t5_c) (cond (t5_n.beq h3.length && (0 + t5_l + 1).ble h3.length) (cond (fits IntKind.i64 (t6 + 1)) (kn t5_n (t5_l + 1) t5_c (t6 + 1) (h2 ++ [q16]) (List.take (0 + t5_l) h3 ++ ([(h2.length, 0)] ++ List.drop (0 + t5_l + 1) h3))) (z)) (z)) (cond (t5_l.beq h3.length) (cond (fits IntKind.i64 (t6 + 1)) (kn ((h3 ++ [(h2.length, 0)]).length) (t5_l + 1) (t5_l + 1) (t6 + 1) (h2 ++ [q16]) (h3 ++ [(h2.length, 0)])) (z)) (z))) (z)) (z)) (z)) (fun q16 q17 q18 q19 => cond (q16.beq q19.length && (q17.beq q16 && (q18.beq q17 && true))) (cond (t5_n.beq h3.length && true) (cond ((t5_l + 1).ble 1099511627776 && ((t5_l + 1) * 24).ble 1099511627776) (cond ((t5_l + 1).ble t5_c) (cond (t5_n.beq h3.length && (0 + t5_l + 1).ble h3.length) (cond (fits IntKind.i64 (t6 + 1)) (kn t5_n (t5_l + 1) t5_c (t6 + 1) (h2 ++ [q19]) (List.take (0 + t5_l) h3 ++ ([(h2.length, q17)] ++ List.drop (0 + t5_l + 1) h3))) (z)) (z)) (cond (t5_l.beq h3.length) (cond (fits IntKind.i64 (t6 + 1)) (kn ((h3 ++ [(h2.length, q17)]).length) (t5_l + 1) (t5_l + 1) (t6 + 1) (h2 ++ [q19]) (h3 ++ [(h2.length, q17)])) (z)) (z))) (z)) (z)) (z)) (fun q16 q17 q18 q19 => cond (q16.beq q19.length && (q17.beq q16 && (q18.beq q17 && true))) (cond (t5_n.beq h3.length && true) (cond ((t5_l + 1).ble 1099511627776 && ((t5_l + 1) * 24).ble 1099511627776) (cond ((t5_l + 1).ble t5_c) (cond (t5_n.beq h3.length && (0 + t5_l + 1).ble h3.length) (cond (fits IntKind.i64 (t6 + 1)) (kn t5_n (t5_l + 1) t5_c (t6 + 1) (h2 ++ [q19]) (List.take (0 + t5_l) h3 ++ ([(h2.length, q17)] ++ List.drop (0 + t5_l + 1) h3))) (z)) (z)) (cond (t5_l.beq h3.length) (cond (fits IntKind.i64 (t6 + 1)) (kn ((h3 ++ [(h2.length, q17)]).length) (t5_l + 1) (t5_l + 1) (t6 + 1) (h2 ++ [q19]) (h3 ++ [(h2.length, q17)])) (z)) (z))) (z)) (z)) (z))) (z)) (z)) (k0 t5_n t5_l t5_c h2 h3)) (z)
def s_l08Reduce_l0 {β : Type} (z : β) (N : Nat) (rows_n : Nat) (rows_l : Nat) (rows_c : Nat) (t1 : Int) (h0 : List (Nat × Nat)) (h1 : List (List Int)) : Nat → Nat → Nat → Nat → Int → (List (List Int)) → (List (Nat × Nat)) → (Nat → Nat → Nat → (List (List Int)) → (List (Nat × Nat)) → β) → β
  | 0, _, _, _, _, _, _, _ => z
  | m + 1, t5_n, t5_l, t5_c, t6, h2, h3, k0 => s_l08Reduce_l0_s z N rows_n rows_l rows_c t1 h0 h1 t5_n t5_l t5_c t6 h2 h3 (fun t5_n t5_l t5_c t6 h2 h3 => s_l08Reduce_l0 z N rows_n rows_l rows_c t1 h0 h1 m t5_n t5_l t5_c t6 h2 h3 k0) k0

/-- spec.l08Reduce, loop -/
def s_l08Reduce_l2_s {β : Type} (z : β) (t1 : Int) (t5_n : Nat) (t5_l : Nat) (t5_c : Nat) (t7 : Int) (t8 : Int) (h0 : List (Nat × Nat)) (h1 : List (List Int)) (h2 : List (List Int)) (h3 : List (Nat × Nat)) (t9 : Int) (kn : Int → β) (k0 : Int → β) : β :=
  cond (t5_l.ble 9223372036854775807) (cond (decide (t9 < (↑t5_l : Int))) (cond (t5_n.beq h3.length && (decide (0 ≤ t9) && decide (t9 < (↑t5_l : Int)))) (cond (t5_n.beq h3.length && t9.toNat.blt h3.length) (cond ((h3[t9.toNat]?.getD (0, 0)).snd.beq (h2[(h3[t9.toNat]?.getD (0, 0)).fst]?.getD []).length && (decide (0 ≤ t8) && decide (t8 < (↑(h3[t9.toNat]?.getD (0, 0)).snd : Int)))) (cond ((h3[t9.toNat]?.getD (0, 0)).snd.beq (h2[(h3[t9.toNat]?.getD (0, 0)).fst]?.getD []).length && t8.toNat.blt (h2[(h3[t9.toNat]?.getD (0, 0)).fst]?.getD []).length) (cond ((h2[(h3[t9.toNat]?.getD (0, 0)).fst]?.getD [])[t8.toNat]?.getD 0 == 0) (cond (fits IntKind.i64 (t9 + 1)) (kn (t9 + 1)) (z)) (k0 t9)) (z)) (z)) (z)) (z)) (k0 t9)) (z)
def s_l08Reduce_l2 {β : Type} (z : β) (t1 : Int) (t5_n : Nat) (t5_l : Nat) (t5_c : Nat) (t7 : Int) (t8 : Int) (h0 : List (Nat × Nat)) (h1 : List (List Int)) (h2 : List (List Int)) (h3 : List (Nat × Nat)) : Nat → Int → (Int → β) → β
  | 0, _, _ => z
  | m + 1, t9, k0 => s_l08Reduce_l2_s z t1 t5_n t5_l t5_c t7 t8 h0 h1 h2 h3 t9 (fun t9 => s_l08Reduce_l2 z t1 t5_n t5_l t5_c t7 t8 h0 h1 h2 h3 m t9 k0) k0

/-- spec.l08Reduce, loop -/
def s_l08Reduce_l3_s {β : Type} (z : β) (t1 : Int) (t5_n : Nat) (t5_l : Nat) (t5_c : Nat) (t7 : Int) (t8 : Int) (t10_r : Nat) (t10_o : Nat) (t10_n : Nat) (t10_l : Nat) (t10_c : Nat) (h0 : List (Nat × Nat)) (h1 : List (List Int)) (h2 : List (List Int)) (h3 : List (Nat × Nat)) (t11 : Int) (kn : Int → β) (k0 : Int → β) : β :=
  cond (t10_n.beq (h2[t10_r]?.getD []).length && (decide (0 ≤ t8) && decide (t8 < (↑t10_l : Int)))) (cond (t10_n.beq (h2[t10_r]?.getD []).length && (addO t10_o t8.toNat).blt (h2[t10_r]?.getD []).length) (cond (fits IntKind.i64 (t11 * (h2[t10_r]?.getD [])[addO t10_o t8.toNat]?.getD 0)) (cond (!t1 == 0) (cond ((t11 * (h2[t10_r]?.getD [])[addO t10_o t8.toNat]?.getD 0).tmod t1 != 1) (cond (fits IntKind.i64 (t11 + 1)) (kn (t11 + 1)) (z)) (k0 t11)) (z)) (z)) (z)) (z)
def s_l08Reduce_l3 {β : Type} (z : β) (t1 : Int) (t5_n : Nat) (t5_l : Nat) (t5_c : Nat) (t7 : Int) (t8 : Int) (t10_r : Nat) (t10_o : Nat) (t10_n : Nat) (t10_l : Nat) (t10_c : Nat) (h0 : List (Nat × Nat)) (h1 : List (List Int)) (h2 : List (List Int)) (h3 : List (Nat × Nat)) : Nat → Int → (Int → β) → β
  | 0, _, _ => z
  | m + 1, t11, k0 => s_l08Reduce_l3_s z t1 t5_n t5_l t5_c t7 t8 t10_r t10_o t10_n t10_l t10_c h0 h1 h2 h3 t11 (fun t11 => s_l08Reduce_l3 z t1 t5_n t5_l t5_c t7 t8 t10_r t10_o t10_n t10_l t10_c h0 h1 h2 h3 m t11 k0) k0

/-- spec.l08Reduce, loop -/
def s_l08Reduce_l4_s {β : Type} (z : β) (t1 : Int) (t5_n : Nat) (t5_l : Nat) (t5_c : Nat) (t7 : Int) (t8 : Int) (t10_r : Nat) (t10_o : Nat) (t10_n : Nat) (t10_l : Nat) (t10_c : Nat) (t11 : Int) (h0 : List (Nat × Nat)) (h1 : List (List Int)) (h3 : List (Nat × Nat)) (t12 : Int) (h2 : List (List Int)) (kn : Int → (List (List Int)) → β) (k0 : (List (List Int)) → β) : β :=
  cond (t10_l.ble 9223372036854775807) (cond (decide (t12 < (↑t10_l : Int))) (cond (t10_n.beq (h2[t10_r]?.getD []).length && (decide (0 ≤ t12) && decide (t12 < (↑t10_l : Int)))) (cond (t10_n.beq (h2[t10_r]?.getD []).length && (addO t10_o t12.toNat).blt (h2[t10_r]?.getD []).length) (cond (fits IntKind.i64 ((h2[t10_r]?.getD [])[addO t10_o t12.toNat]?.getD 0 * t11)) (cond (!t1 == 0) (cond (t10_n.beq (h2[t10_r]?.getD []).length && (decide (0 ≤ t12) && decide (t12 < (↑t10_l : Int)))) (cond (t10_n.beq (h2[t10_r]?.getD []).length && (addO t10_o t12.toNat).blt (h2[t10_r]?.getD []).length) (cond (fits IntKind.i64 (t12 + 1)) (kn (t12 + 1) (h2.set t10_r ((h2[t10_r]?.getD []).set (addO t10_o t12.toNat) (((h2[t10_r]?.getD [])[addO t10_o t12.toNat]?.getD 0 * t11).tmod t1)))) (z)) (z)) (z)) (z)) (z)) (z)) (z)) (k0 h2)) (z)
def s_l08Reduce_l4 {β : Type} (z : β) (t1 : Int) (t5_n : Nat) (t5_l : Nat) (t5_c : Nat) (t7 : Int) (t8 : Int) (t10_r : Nat) (t10_o : Nat) (t10_n : Nat) (t10_l : Nat) (t10_c : Nat) (t11 : Int) (h0 : List (Nat × Nat)) (h1 : List (List Int)) (h3 : List (Nat × Nat)) : Nat → Int → (List (List Int)) → ((List (List Int)) → β) → β
  | 0, _, _, _ => z
  | m + 1, t12, h2, k0 => s_l08Reduce_l4_s z t1 t5_n t5_l t5_c t7 t8 t10_r t10_o t10_n t10_l t10_c t11 h0 h1 h3 t12 h2 (fun t12 h2 => s_l08Reduce_l4 z t1 t5_n t5_l t5_c t7 t8 t10_r t10_o t10_n t10_l t10_c t11 h0 h1 h3 m t12 h2 k0) k0

/-- spec.l08Reduce, loop -/
def s_l08Reduce_l6_s {β : Type} (z : β) (t1 : Int) (t5_n : Nat) (t5_l : Nat) (t5_c : Nat) (t7 : Int) (t8 : Int) (t10_r : Nat) (t10_o : Nat) (t10_n : Nat) (t10_l : Nat) (t10_c : Nat) (t13 : Int) (t14 : Int) (h0 : List (Nat × Nat)) (h1 : List (List Int)) (h2 : List (List Int)) (h3 : List (Nat × Nat)) (t15_n : Nat) (t15_l : Nat) (t15_c : Nat) (t16 : Int) (h4 : List Int) (kn : Nat → Nat → Nat → Int → (List Int) → β) (k0 : Nat → Nat → Nat → (List Int) → β) : β :=
  cond (t10_l.ble 9223372036854775807) (cond (decide (t16 < (↑t10_l : Int))) (cond (t5_n.beq h3.length && (decide (0 ≤ t13) && decide (t13 < (↑t5_l : Int)))) (cond (t5_n.beq h3.length && t13.toNat.blt h3.length) (cond ((h3[t13.toNat]?.getD (0, 0)).snd.beq (h2[(h3[t13.toNat]?.getD (0, 0)).fst]?.getD []).length && (decide (0 ≤ t16) && decide (t16 < (↑(h3[t13.toNat]?.getD (0, 0)).snd : Int)))) (cond ((h3[t13.toNat]?.getD (0, 0)).snd.beq (h2[(h3[t13.toNat]?.getD (0, 0)).fst]?.getD []).length && t16.toNat.blt (h2[(h3[t13.toNat]?.getD (0, 0)).fst]?.getD []).length) (cond (t10_n.beq (h2[t10_r]?.getD []).length && (decide (0 ≤ t16) && decide (t16 < (↑t10_l : Int)))) (cond (t10_n.beq (h2[t10_r]?.getD []).length && (addO t10_o t16.toNat).blt (h2[t10_r]?.getD []).length) (cond (fits IntKind.i64 (t14 * (h2[t10_r]?.getD [])[addO t10_o t16.toNat]?.getD 0)) (cond (fits IntKind.i64 ((h2[(h3[t13.toNat]?.getD (0, 0)).fst]?.getD [])[t16.toNat]?.getD 0 - t14 * (h2[t10_r]?.getD [])[addO t10_o t16.toNat]?.getD 0)) (cond (!t1 == 0) (cond (fits IntKind.i64 (((h2[(h3[t13.toNat]?.getD (0, 0)).fst]?.getD [])[t16.toNat]?.getD 0 - t14 * (h2[t10_r]?.getD [])[addO t10_o t16.toNat]?.getD 0).tmod t1 + t1)) (cond (!t1 == 0) (cond (t15_n.beq h4.length && true) (cond ((t15_l + 1).ble 1099511627776 && ((t15_l + 1) * 8).ble 1099511627776) (cond ((t15_l + 1).ble t15_c) (cond (t15_n.beq h4.length && (0 + t15_l + 1).ble h4.length) (cond (fits IntKind.i64 (t16 + 1)) (kn t15_n (t15_l + 1) t15_c (t16 + 1) (List.take (0 + t15_l) h4 ++ (fromTo ((List.replicate 1 0).set 0 ((((h2[(h3[t13.toNat]?.getD (0, 0)).fst]?.getD [])[t16.toNat]?.getD 0 - t14 * (h2[t10_r]?.getD [])[addO t10_o t16.toNat]?.getD 0).tmod t1 + t1).tmod t1)) 0 1 ++ List.drop (0 + t15_l + 1) h4))) (z)) (z)) (cond (t15_l.beq h4.length) (cond (fits IntKind.i64 (t16 + 1)) (kn ((h4 ++ fromTo ((List.replicate 1 0).set 0 ((((h2[(h3[t13.toNat]?.getD (0, 0)).fst]?.getD [])[t16.toNat]?.getD 0 - t14 * (h2[t10_r]?.getD [])[addO t10_o t16.toNat]?.getD 0).tmod t1 + t1).tmod t1)) 0 1).length) (t15_l + 1) (t15_l + 1) (t16 + 1) (h4 ++ fromTo ((List.replicate 1 0).set 0 ((((h2[(h3[t13.toNat]?.getD (0, 0)).fst]?.getD [])[t16.toNat]?.getD 0 - t14 * (h2[t10_r]?.getD [])[addO t10_o t16.toNat]?.getD 0).tmod t1 + t1).tmod t1)) 0 1)) (z)) (z))) (z)) (z)) (z)) (z)) (z)) (z)) (z)) (z)) (z)) (z)) (z)) (z)) (z)) (k0 t15_n t15_l t15_c h4)) (z)
def s_l08Reduce_l6 {β : Type} (z : β) (t1 : Int) (t5_n : Nat) (t5_l : Nat) (t5_c : Nat) (t7 : Int) (t8 : Int) (t10_r : Nat) (t10_o : Nat) (t10_n : Nat) (t10_l : Nat) (t10_c : Nat) (t13 : Int) (t14 : Int) (h0 : List (Nat × Nat)) (h1 : List (List Int)) (h2 : List (List Int)) (h3 : List (Nat × Nat)) : Nat → Nat → Nat → Nat → Int → (List Int) → (Nat → Nat → Nat → (List Int) → β) → β
  | 0, _, _, _, _, _, _ => z
  | m + 1, t15_n, t15_l, t15_c, t16, h4, k0 => s_l08Reduce_l6_s z t1 t5_n t5_l t5_c t7 t8 t10_r t10_o t10_n t10_l t10_c t13 t14 h0 h1 h2 h3 t15_n t15_l t15_c t16 h4 (fun t15_n t15_l t15_c t16 h4 => s_l08Reduce_l6 z t1 t5_n t5_l t5_c t7 t8 t10_r t10_o t10_n t10_l t10_c t13 t14 h0 h1 h2 h3 m t15_n t15_l t15_c t16 h4 k0) k0

/-- spec.l08Reduce, loop -/
def s_l08Reduce_l5_s {β : Type} (z : β) (N : Nat) (t1 : Int) (t5_n : Nat) (t5_l : Nat) (t5_c : Nat) (t7 : Int) (t8 : Int) (t10_r : Nat) (t10_o : Nat) (t10_n : Nat) (t10_l : Nat) (t10_c : Nat) (h0 : List (Nat × Nat)) (h1 : List (List Int)) (t13 : Int) (h2 : List (List Int)) (h3 : List (Nat × Nat)) (kn : Int → (List (List Int)) → (List (Nat × Nat)) → β) (k0 : (List (List Int)) → (List (Nat × Nat)) → β) : β :=
  cond (t5_l.ble 9223372036854775807) (cond (decide (t13 < (↑t5_l : Int))) (cond (t5_n.beq h3.length && (decide (0 ≤ t13) && decide (t13 < (↑t5_l : Int)))) (cond (t5_n.beq h3.length && t13.toNat.blt h3.length) (cond ((h3[t13.toNat]?.getD (0, 0)).snd.beq (h2[(h3[t13.toNat]?.getD (0, 0)).fst]?.getD []).length && (decide (0 ≤ t8) && decide (t8 < (↑(h3[t13.toNat]?.getD (0, 0)).snd : Int)))) (cond ((h3[t13.toNat]?.getD (0, 0)).snd.beq (h2[(h3[t13.toNat]?.getD (0, 0)).fst]?.getD []).length && t8.toNat.blt (h2[(h3[t13.toNat]?.getD (0, 0)).fst]?.getD []).length) (cond (t13 == t7) (cond (fits IntKind.i64 (t13 + 1)) (kn (t13 + 1) h2 h3) (z)) (cond ((h2[(h3[t13.toNat]?.getD (0, 0)).fst]?.getD [])[t8.toNat]?.getD 0 == 0) (cond (fits IntKind.i64 (t13 + 1)) (kn (t13 + 1) h2 h3) (z)) (s_l08Reduce_l6 z t1 t5_n t5_l t5_c t7 t8 t10_r t10_o t10_n t10_l t10_c t13 ((h2[(h3[t13.toNat]?.getD (0, 0)).fst]?.getD [])[t8.toNat]?.getD 0) h0 h1 h2 h3 N 0 0 0 0 (List.replicate 0 0) (fun q20 q21 q22 q23 => cond (t5_n.beq h3.length && (decide (0 ≤ t13) && decide (t13 < (↑t5_l : Int)))) (cond (q20.beq q23.length && (q21.beq q20 && (q22.beq q21 && true))) (cond (t5_n.beq h3.length && t13.toNat.blt h3.length && ((h2.length, q21).snd.beq (h2.length, q21).snd && (h2.length, q21).snd.beq (h2.length, q21).snd)) (cond (fits IntKind.i64 (t13 + 1)) (kn (t13 + 1) (h2 ++ [q23]) (h3.set t13.toNat ((h2.length, q21).fst, (h2.length, q21).snd))) (z)) (z)) (z)) (z))))) (z)) (z)) (z)) (z)) (k0 h2 h3)) (z)
def s_l08Reduce_l5 {β : Type} (z : β) (N : Nat) (t1 : Int) (t5_n : Nat) (t5_l : Nat) (t5_c : Nat) (t7 : Int) (t8 : Int) (t10_r : Nat) (t10_o : Nat) (t10_n : Nat) (t10_l : Nat) (t10_c : Nat) (h0 : List (Nat × Nat)) (h1 : List (List Int)) : Nat → Int → (List (List Int)) → (List (Nat × Nat)) → ((List (List Int)) → (List (Nat × Nat)) → β) → β
  | 0, _, _, _, _ => z
  | m + 1, t13, h2, h3, k0 => s_l08Reduce_l5_s z N t1 t5_n t5_l t5_c t7 t8 t10_r t10_o t10_n t10_l t10_c h0 h1 t13 h2 h3 (fun t13 h2 h3 => s_l08Reduce_l5 z N t1 t5_n t5_l t5_c t7 t8 t10_r t10_o t10_n t10_l t10_c h0 h1 m t13 h2 h3 k0) k0

/-- spec.l08Reduce, loop -/
def s_l08Reduce_l1_s {β : Type} (z : β) (N : Nat) (t1 : Int) (t5_n : Nat) (t5_l : Nat) (t5_c : Nat) (h0 : List (Nat × Nat)) (h1 : List (List Int)) (t7 : Int) (t8 : Int) (h2 : List (List Int)) (h3 : List (Nat × Nat)) (kn : Int → Int → (List (List Int)) → (List (Nat × Nat)) → β) (k0 : Int → (List (List Int)) → (List (Nat × Nat)) → β) : β :=
  cond (t5_l.ble 9223372036854775807) (cond (decide (0 < (↑t5_l : Int))) (cond (t5_n.beq h3.length && decide (0 < (↑t5_l : Int))) (cond (t5_n.beq h3.length && Nat.blt 0 h3.length) (cond ((h3[(0 : Nat)]?.getD (0, 0)).snd.ble 9223372036854775807) (cond (decide (t8 < (↑(h3[(0 : Nat)]?.getD (0, 0)).snd : Int))) (s_l08Reduce_l2 z t1 t5_n t5_l t5_c t7 t8 h0 h1 h2 h3 N t7 (fun q14 => cond (t5_l.ble 9223372036854775807) (cond (q14 == (↑t5_l : Int)) (cond (fits IntKind.i64 (t8 + 1)) (kn t7 (t8 + 1) h2 h3) (z)) (cond (t5_n.beq h3.length && (decide (0 ≤ q14) && decide (q14 < (↑t5_l : Int)))) (cond (t5_n.beq h3.length && q14.toNat.blt h3.length) (cond (t5_n.beq h3.length && (decide (0 ≤ t7) && decide (t7 < (↑t5_l : Int)))) (cond (t5_n.beq h3.length && t7.toNat.blt h3.length) (cond (t5_n.beq h3.length && (decide (0 ≤ q14) && decide (q14 < (↑t5_l : Int)))) (cond ((h3[t7.toNat]?.getD (0, 0)).snd.beq (h3[t7.toNat]?.getD (0, 0)).snd && (h3[t7.toNat]?.getD (0, 0)).snd.beq (h3[t7.toNat]?.getD (0, 0)).snd) (cond (t5_n.beq h3.length && q14.toNat.blt h3.length && (((h3[t7.toNat]?.getD (0, 0)).fst, (h3[t7.toNat]?.getD (0, 0)).snd).snd.beq ((h3[t7.toNat]?.getD (0, 0)).fst, (h3[t7.toNat]?.getD (0, 0)).snd).snd && ((h3[t7.toNat]?.getD (0, 0)).fst, (h3[t7.toNat]?.getD (0, 0)).snd).snd.beq ((h3[t7.toNat]?.getD (0, 0)).fst, (h3[t7.toNat]?.getD (0, 0)).snd).snd)) (s_l08Reduce_l3 z t1 t5_n t5_l t5_c t7 t8 ((h3[q14.toNat]?.getD (0, 0)).fst) 0 ((h3[q14.toNat]?.getD (0, 0)).snd) ((h3[q14.toNat]?.getD (0, 0)).snd) ((h3[q14.toNat]?.getD (0, 0)).snd) h0 h1 h2 (h3.set q14.toNat (((h3[t7.toNat]?.getD (0, 0)).fst, (h3[t7.toNat]?.getD (0, 0)).snd).fst, ((h3[t7.toNat]?.getD (0, 0)).fst, (h3[t7.toNat]?.getD (0, 0)).snd).snd)) N 1 (fun q15 => s_l08Reduce_l4 z t1 t5_n t5_l t5_c t7 t8 ((h3[q14.toNat]?.getD (0, 0)).fst) 0 ((h3[q14.toNat]?.getD (0, 0)).snd) ((h3[q14.toNat]?.getD (0, 0)).snd) ((h3[q14.toNat]?.getD (0, 0)).snd) q15 h0 h1 (h3.set q14.toNat (((h3[t7.toNat]?.getD (0, 0)).fst, (h3[t7.toNat]?.getD (0, 0)).snd).fst, ((h3[t7.toNat]?.getD (0, 0)).fst, (h3[t7.toNat]?.getD (0, 0)).snd).snd)) N 0 h2 (fun q16 => cond (t5_n.beq (h3.set q14.toNat (((h3[t7.toNat]?.getD (0, 0)).fst, (h3[t7.toNat]?.getD (0, 0)).snd).fst, ((h3[t7.toNat]?.getD (0, 0)).fst, (h3[t7.toNat]?.getD (0, 0)).snd).snd)).length && (decide (0 ≤ t7) && decide (t7 < (↑t5_l : Int)))) (cond ((h3[q14.toNat]?.getD (0, 0)).snd.beq (h3[q14.toNat]?.getD (0, 0)).snd && (h3[q14.toNat]?.getD (0, 0)).snd.beq (h3[q14.toNat]?.getD (0, 0)).snd) (cond (t5_n.beq (h3.set q14.toNat (((h3[t7.toNat]?.getD (0, 0)).fst, (h3[t7.toNat]?.getD (0, 0)).snd).fst, ((h3[t7.toNat]?.getD (0, 0)).fst, (h3[t7.toNat]?.getD (0, 0)).snd).snd)).length && t7.toNat.blt (h3.set q14.toNat (((h3[t7.toNat]?.getD (0, 0)).fst, (h3[t7.toNat]?.getD (0, 0)).snd).fst, ((h3[t7.toNat]?.getD (0, 0)).fst, (h3[t7.toNat]?.getD (0, 0)).snd).snd)).length && (((h3[q14.toNat]?.getD (0, 0)).fst, (h3[q14.toNat]?.getD (0, 0)).snd).snd.beq ((h3[q14.toNat]?.getD (0, 0)).fst, (h3[q14.toNat]?.getD (0, 0)).snd).snd && ((h3[q14.toNat]?.getD (0, 0)).fst, (h3[q14.toNat]?.getD (0, 0)).snd).snd.beq ((h3[q14.toNat]?.getD (0, 0)).fst, (h3[q14.toNat]?.getD (0, 0)).snd).snd)) (s_l08Reduce_l5 z N t1 t5_n t5_l t5_c t7 t8 ((h3[q14.toNat]?.getD (0, 0)).fst) 0 ((h3[q14.toNat]?.getD (0, 0)).snd) ((h3[q14.toNat]?.getD (0, 0)).snd) ((h3[q14.toNat]?.getD (0, 0)).snd) h0 h1 N 0 q16 ((h3.set q14.toNat (((h3[t7.toNat]?.getD (0, 0)).fst, (h3[t7.toNat]?.getD (0, 0)).snd).fst, ((h3[t7.toNat]?.getD (0, 0)).fst, (h3[t7.toNat]?.getD (0, 0)).snd).snd)).set t7.toNat (((h3[q14.toNat]?.getD (0, 0)).fst, (h3[q14.toNat]?.getD (0, 0)).snd).fst, ((h3[q14.toNat]?.getD (0, 0)).fst, (h3[q14.toNat]?.getD (0, 0)).snd).snd)) (fun q17 q18 => cond (fits IntKind.i64 (t7 + 1)) (cond (fits IntKind.i64 (t8 + 1)) (kn (t7 + 1) (t8 + 1) q17 q18) (z)) (z))) (z)) (z)) (z)))) (z)) (z)) (z)) (z)) (z)) (z)) (z))) (z))) (k0 t7 h2 h3)) (z)) (z)) (z)) (k0 t7 h2 h3)) (z)
def s_l08Reduce_l1 {β : Type} (z : β) (N : Nat) (t1 : Int) (t5_n : Nat) (t5_l : Nat) (t5_c : Nat) (h0 : List (Nat × Nat)) (h1 : List (List Int)) : Nat → Int → Int → (List (List Int)) → (List (Nat × Nat)) → (Int → (List (List Int)) → (List (Nat × Nat)) → β) → β
  | 0, _, _, _, _, _ => z
  | m + 1, t7, t8, h2, h3, k0 => s_l08Reduce_l1_s z N t1 t5_n t5_l t5_c h0 h1 t7 t8 h2 h3 (fun t7 t8 h2 h3 => s_l08Reduce_l1 z N t1 t5_n t5_l t5_c h0 h1 m t7 t8 h2 h3 k0) k0

/-- spec.l08Reduce -/
def s_l08Reduce {β : Type} (z : β) (N : Nat) (rows_n : Nat) (rows_l : Nat) (rows_c : Nat) (a1 : Int) (h0 : List (Nat × Nat)) (h1 : List (List Int)) (k0 : Nat → Nat → Nat → (List (List Int)) → (List (Nat × Nat)) → β) : β :=
  s_l08Reduce_l0 z N rows_n rows_l rows_c a1 h0 h1 N 0 0 0 0 (List.replicate 0 []) (List.map (fun (i : Nat) => (i, 0)) (List.range 0)) (fun q9 q10 q11 q12 q13 => s_l08Reduce_l1 z N a1 q9 q10 q11 h0 h1 N 0 0 q12 q13 (fun q14 q15 q16 => cond (q9.beq q16.length && true) (cond (decide (0 ≤ q14) && decide (q14 ≤ (↑q11 : Int)) && decide ((↑q11 : Int) ≤ (↑q11 : Int))) (k0 q9 (q14.toNat - 0) ((↑q11 : Int).toNat - 0) q15 q16) (z)) (z)))

/-- spec.CountColourings -/
def s_CountColourings {β : Type} (z : β) (N : Nat) (g_0 : Int) (g_1 : Nat → Int) (g_2 : Nat → Int) (p : Int) (k0 : Int → Int → β) : β :=
  s_l08Code z N g_0 g_1 g_2 p (fun q7 => cond (q7 != 0) (k0 0 q7) (s_l08Rows z N g_0 g_1 g_2 p (fun q8 q9 q10 q11 q12 => s_l08Reduce z N q8 q9 q10 p q11 q12 (fun q13 q14 q15 q16 q17 => cond (q14.ble 9223372036854775807) (cond (fits IntKind.i64 (g_0 - (↑q14 : Int))) (k0 (g_0 - (↑q14 : Int)) 0) (z)) (z)))))

/-- impl.echelon, loop -/
def i_echelon_l1_s {β : Type} (z : β) (t1 : Int) (t2 : Int) (t8_n : Nat) (t8_l : Nat) (t8_c : Nat) (t25_n : Nat) (t25_l : Nat) (t25_c : Nat) (t26 : Int) (t27 : Int) (t32_r : Nat) (t32_o : Nat) (t32_n : Nat) (t32_l : Nat) (t32_c : Nat) (t33 : Int) (h0 : List (Nat × Nat)) (h1 : List (List Int)) (h2 : List (List Int)) (h3 : List (Nat × Nat)) (h4 : List Int) (t12_n : Nat) (t12_l : Nat) (t12_c : Nat) (t34 : Int) (h5 : List Int) (kn : Nat → Nat → Nat → Int → (List Int) → β) (k0 : Nat → Nat → Nat → (List Int) → β) : β :=
  cond (decide (t34 < t33)) (cond (t32_n.beq (h1[t32_r]?.getD []).length && (decide (0 ≤ t34) && decide (t34 < (↑t32_l : Int)))) (cond (t32_n.beq (h1[t32_r]?.getD []).length && (addO t32_o t34.toNat).blt (h1[t32_r]?.getD []).length) (cond (!t2 == 0) (cond (fits IntKind.i64 (((h1[t32_r]?.getD [])[addO t32_o t34.toNat]?.getD 0).tmod t2 + t2)) (cond (!t2 == 0) (cond (t12_n.beq h5.length && true) (cond ((t12_l + 1).ble 1099511627776 && ((t12_l + 1) * 8).ble 1099511627776) (cond ((t12_l + 1).ble t12_c) (cond (t12_n.beq h5.length && (0 + t12_l + 1).ble h5.length) (cond (fits IntKind.i64 (t34 + 1)) (kn t12_n (t12_l + 1) t12_c (t34 + 1) (List.take (0 + t12_l) h5 ++ (fromTo ((List.replicate 1 0).set 0 ((((h1[t32_r]?.getD [])[addO t32_o t34.toNat]?.getD 0).tmod t2 + t2).tmod t2)) 0 1 ++ List.drop (0 + t12_l + 1) h5))) (z)) (z)) (cond (t12_l.beq h5.length) (cond (fits IntKind.i64 (t34 + 1)) (kn ((h5 ++ fromTo ((List.replicate 1 0).set 0 ((((h1[t32_r]?.getD [])[addO t32_o t34.toNat]?.getD 0).tmod t2 + t2).tmod t2)) 0 1).length) (t12_l + 1) (t12_l + 1) (t34 + 1) (h5 ++ fromTo ((List.replicate 1 0).set 0 ((((h1[t32_r]?.getD [])[addO t32_o t34.toNat]?.getD 0).tmod t2 + t2).tmod t2)) 0 1)) (z)) (z))) (z)) (z)) (z)) (z)) (z)) (z)) (z)) (k0 t12_n t12_l t12_c h5)
def i_echelon_l1 {β : Type} (z : β) (t1 : Int) (t2 : Int) (t8_n : Nat) (t8_l : Nat) (t8_c : Nat) (t25_n : Nat) (t25_l : Nat) (t25_c : Nat) (t26 : Int) (t27 : Int) (t32_r : Nat) (t32_o : Nat) (t32_n : Nat) (t32_l : Nat) (t32_c : Nat) (t33 : Int) (h0 : List (Nat × Nat)) (h1 : List (List Int)) (h2 : List (List Int)) (h3 : List (Nat × Nat)) (h4 : List Int) : Nat → Nat → Nat → Nat → Int → (List Int) → (Nat → Nat → Nat → (List Int) → β) → β
  | 0, _, _, _, _, _, _ => z
  | m + 1, t12_n, t12_l, t12_c, t34, h5, k0 => i_echelon_l1_s z t1 t2 t8_n t8_l t8_c t25_n t25_l t25_c t26 t27 t32_r t32_o t32_n t32_l t32_c t33 h0 h1 h2 h3 h4 t12_n t12_l t12_c t34 h5 (fun t12_n t12_l t12_c t34 h5 => i_echelon_l1 z t1 t2 t8_n t8_l t8_c t25_n t25_l t25_c t26 t27 t32_r t32_o t32_n t32_l t32_c t33 h0 h1 h2 h3 h4 m t12_n t12_l t12_c t34 h5 k0) k0

/-- impl.echelon, loop -/
def i_echelon_l0_s {β : Type} (z : β) (N : Nat) (t1 : Int) (t2 : Int) (t25_n : Nat) (t25_l : Nat) (t25_c : Nat) (t26 : Int) (h0 : List (Nat × Nat)) (h1 : List (List Int)) (h4 : List Int) (t8_n : Nat) (t8_l : Nat) (t8_c : Nat) (t27 : Int) (h2 : List (List Int)) (h3 : List (Nat × Nat)) (kn : Nat → Nat → Nat → Int → (List (List Int)) → (List (Nat × Nat)) → β) (k0 : Nat → Nat → Nat → (List (List Int)) → (List (Nat × Nat)) → β) : β :=
  cond (decide (t27 < t26)) (cond (t25_n.beq h0.length && (decide (0 ≤ t27) && decide (t27 < (↑t25_l : Int)))) (cond (t25_n.beq h0.length && t27.toNat.blt h0.length) (cond ((h0[t27.toNat]?.getD (0, 0)).snd.ble 9223372036854775807) (i_echelon_l1 z t1 t2 t8_n t8_l t8_c t25_n t25_l t25_c t26 t27 ((h0[t27.toNat]?.getD (0, 0)).fst) 0 ((h0[t27.toNat]?.getD (0, 0)).snd) ((h0[t27.toNat]?.getD (0, 0)).snd) ((h0[t27.toNat]?.getD (0, 0)).snd) (↑(h0[t27.toNat]?.getD (0, 0)).snd : Int) h0 h1 h2 h3 h4 N 0 0 0 0 (List.replicate 0 0) (fun q19 q20 q21 q22 => cond (q19.beq q22.length && (q20.beq q19 && (q21.beq q20 && true))) (cond (t8_n.beq h3.length && true) (cond ((t8_l + 1).ble 1099511627776 && ((t8_l + 1) * 24).ble 1099511627776) (cond ((t8_l + 1).ble t8_c) (cond (t8_n.beq h3.length && (0 + t8_l + 1).ble h3.length) (cond (fits IntKind.i64 (t27 + 1)) (kn t8_n (t8_l + 1) t8_c (t27 + 1) (h2 ++ [q22]) (List.take (0 + t8_l) h3 ++ ([(h2.length, q20)] ++ List.drop (0 + t8_l + 1) h3))) (z)) (z)) (cond (t8_l.beq h3.length) (cond (fits IntKind.i64 (t27 + 1)) (kn ((h3 ++ [(h2.length, q20)]).length) (t8_l + 1) (t8_l + 1) (t27 + 1) (h2 ++ [q22]) (h3 ++ [(h2.length, q20)])) (z)) (z))) (z)) (z)) (z))) (z)) (z)) (z)) (k0 t8_n t8_l t8_c h2 h3)
def i_echelon_l0 {β : Type} (z : β) (N : Nat) (t1 : Int) (t2 : Int) (t25_n : Nat) (t25_l : Nat) (t25_c : Nat) (t26 : Int) (h0 : List (Nat × Nat)) (h1 : List (List Int)) (h4 : List Int) : Nat → Nat → Nat → Nat → Int → (List (List Int)) → (List (Nat × Nat)) → (Nat → Nat → Nat → (List (List Int)) → (List (Nat × Nat)) → β) → β
  | 0, _, _, _, _, _, _, _ => z
  | m + 1, t8_n, t8_l, t8_c, t27, h2, h3, k0 => i_echelon_l0_s z N t1 t2 t25_n t25_l t25_c t26 h0 h1 h4 t8_n t8_l t8_c t27 h2 h3 (fun t8_n t8_l t8_c t27 h2 h3 => i_echelon_l0 z N t1 t2 t25_n t25_l t25_c t26 h0 h1 h4 m t8_n t8_l t8_c t27 h2 h3 k0) k0

/-- impl.echelon$1 -/
def i_echelon_1 {β : Type} (z : β) (N : Nat) (line_r : Nat) (line_o : Nat) (line_n : Nat) (line_l : Nat) (line_c : Nat) (h0 : List (List Int)) (h1 : Int) (k0 : Bool → β) : β :=
  cond (line_n.beq (h0[line_r]?.getD []).length && (decide (0 ≤ h1) && decide (h1 < (↑line_l : Int)))) (cond (line_n.beq (h0[line_r]?.getD []).length && (addO line_o h1.toNat).blt (h0[line_r]?.getD []).length) (k0 ((h0[line_r]?.getD [])[addO line_o h1.toNat]?.getD 0 != 0)) (z)) (z)

/-- slices.IndexFunc[[][]int64,[]int64], loop -/
def slices_IndexFunc_int64_int64_l0_s2_s {β : Type} (z : β) (N : Nat) (s_o : Nat) (s_n : Nat) (s_l : Nat) (s_c : Nat) (t7 : Int) (h0 : List (Nat × Nat)) (h1 : Int) (h2 : List (List Int)) (t8 : Int) (kn : Int → β) (k0 : Int → β) (k1 : β) : β :=
  cond (decide (t8 < t7)) (cond (s_n.beq h0.length && (decide (0 ≤ t8) && decide (t8 < (↑s_l : Int)))) (cond (s_n.beq h0.length && (addO s_o t8.toNat).blt h0.length) (i_echelon_1 z N ((h0[addO s_o t8.toNat]?.getD (0, 0)).fst) 0 ((h0[addO s_o t8.toNat]?.getD (0, 0)).snd) ((h0[addO s_o t8.toNat]?.getD (0, 0)).snd) ((h0[addO s_o t8.toNat]?.getD (0, 0)).snd) h2 h1 (fun q13 => cond (q13) (k0 t8) (cond (fits IntKind.i64 (t8 + 1)) (kn (t8 + 1)) (z)))) (z)) (z)) (k1)
def slices_IndexFunc_int64_int64_l0_s2 {β : Type} (z : β) (N : Nat) (s_o : Nat) (s_n : Nat) (s_l : Nat) (s_c : Nat) (t7 : Int) (h0 : List (Nat × Nat)) (h1 : Int) (h2 : List (List Int)) : Nat → Int → (Int → β) → β → β
  | 0, _, _, _ => z
  | m + 1, t8, k0, k1 => slices_IndexFunc_int64_int64_l0_s2_s z N s_o s_n s_l s_c t7 h0 h1 h2 t8 (fun t8 => slices_IndexFunc_int64_int64_l0_s2 z N s_o s_n s_l s_c t7 h0 h1 h2 m t8 k0 k1) k0 k1

/-- slices.IndexFunc[[][]int64,[]int64] -/
def slices_IndexFunc_int64_int64_s2 {β : Type} (z : β) (N : Nat) (s_o : Nat) (s_n : Nat) (s_l : Nat) (s_c : Nat) (h0 : List (Nat × Nat)) (h1 : Int) (h2 : List (List Int)) (k0 : Int → β) : β :=
  cond (s_l.ble 9223372036854775807) (slices_IndexFunc_int64_int64_l0_s2 z N s_o s_n s_l s_c (↑s_l : Int) h0 h1 h2 N 0 (fun q10 => k0 q10) (k0 (-1))) (z)

/-- impl.inverse, loop -/
def i_inverse_l0_s {β : Type} (z : β) (x : Int) (p : Int) (t6 : Int) (t7 : Int) (kn : Int → β) (k0 : Int → β) (k1 : β) : β :=
  cond (decide (t7 < t6)) (cond (fits IntKind.i64 (x * t7)) (cond (!p == 0) (cond ((x * t7).tmod p == 1) (k0 t7) (cond (fits IntKind.i64 (t7 + 1)) (kn (t7 + 1)) (z))) (z)) (z)) (k1)
def i_inverse_l0 {β : Type} (z : β) (x : Int) (p : Int) (t6 : Int) : Nat → Int → (Int → β) → β → β
  | 0, _, _, _ => z
  | m + 1, t7, k0, k1 => i_inverse_l0_s z x p t6 t7 (fun t7 => i_inverse_l0 z x p t6 m t7 k0 k1) k0 k1

/-- impl.inverse -/
def i_inverse {β : Type} (z : β) (N : Nat) (x : Int) (p : Int) (k0 : Int → β) : β :=
  i_inverse_l0 z x p p N 0 (fun q5 => k0 q5) (k0 0)

/-- impl.echelon, loop -/
def i_echelon_l3_s {β : Type} (z : β) (t2 : Int) (t8_n : Nat) (t8_l : Nat) (t8_c : Nat) (t9_n : Nat) (t9_l : Nat) (t9_c : Nat) (t15 : Int) (t18 : Int) (t54 : Int) (t55 : Int) (t96 : Int) (h0 : List (Nat × Nat)) (h1 : List (List Int)) (h3 : List (Nat × Nat)) (h4 : List Int) (h5 : Int) (t97 : Int) (h2 : List (List Int)) (kn : Int → (List (List Int)) → β) (k0 : (List (List Int)) → β) : β :=
  cond (decide (t97 < t96)) (cond (t8_n.beq h3.length && (decide (0 ≤ t15) && decide (t15 < (↑t8_l : Int)))) (cond (t8_n.beq h3.length && t15.toNat.blt h3.length) (cond (t8_n.beq h3.length && (decide (0 ≤ t15) && decide (t15 < (↑t8_l : Int)))) (cond (t8_n.beq h3.length && t15.toNat.blt h3.length) (cond ((h3[t15.toNat]?.getD (0, 0)).snd.beq (h2[(h3[t15.toNat]?.getD (0, 0)).fst]?.getD []).length && (decide (0 ≤ t97) && decide (t97 < (↑(h3[t15.toNat]?.getD (0, 0)).snd : Int)))) (cond ((h3[t15.toNat]?.getD (0, 0)).snd.beq (h2[(h3[t15.toNat]?.getD (0, 0)).fst]?.getD []).length && t97.toNat.blt (h2[(h3[t15.toNat]?.getD (0, 0)).fst]?.getD []).length) (cond (fits IntKind.i64 ((h2[(h3[t15.toNat]?.getD (0, 0)).fst]?.getD [])[t97.toNat]?.getD 0 * t18)) (cond (!t2 == 0) (cond ((h3[t15.toNat]?.getD (0, 0)).snd.beq (h2[(h3[t15.toNat]?.getD (0, 0)).fst]?.getD []).length && (decide (0 ≤ t97) && decide (t97 < (↑(h3[t15.toNat]?.getD (0, 0)).snd : Int)))) (cond ((h3[t15.toNat]?.getD (0, 0)).snd.beq (h2[(h3[t15.toNat]?.getD (0, 0)).fst]?.getD []).length && t97.toNat.blt (h2[(h3[t15.toNat]?.getD (0, 0)).fst]?.getD []).length) (cond (fits IntKind.i64 (t97 + 1)) (kn (t97 + 1) (h2.set (h3[t15.toNat]?.getD (0, 0)).fst ((h2[(h3[t15.toNat]?.getD (0, 0)).fst]?.getD []).set t97.toNat (((h2[(h3[t15.toNat]?.getD (0, 0)).fst]?.getD [])[t97.toNat]?.getD 0 * t18).tmod t2)))) (z)) (z)) (z)) (z)) (z)) (z)) (z)) (z)) (z)) (z)) (z)) (k0 h2)
def i_echelon_l3 {β : Type} (z : β) (t2 : Int) (t8_n : Nat) (t8_l : Nat) (t8_c : Nat) (t9_n : Nat) (t9_l : Nat) (t9_c : Nat) (t15 : Int) (t18 : Int) (t54 : Int) (t55 : Int) (t96 : Int) (h0 : List (Nat × Nat)) (h1 : List (List Int)) (h3 : List (Nat × Nat)) (h4 : List Int) (h5 : Int) : Nat → Int → (List (List Int)) → ((List (List Int)) → β) → β
  | 0, _, _, _ => z
  | m + 1, t97, h2, k0 => i_echelon_l3_s z t2 t8_n t8_l t8_c t9_n t9_l t9_c t15 t18 t54 t55 t96 h0 h1 h3 h4 h5 t97 h2 (fun t97 h2 => i_echelon_l3 z t2 t8_n t8_l t8_c t9_n t9_l t9_c t15 t18 t54 t55 t96 h0 h1 h3 h4 h5 m t97 h2 k0) k0

/-- impl.echelon, loop -/
def i_echelon_l5_s {β : Type} (z : β) (t2 : Int) (t8_n : Nat) (t8_l : Nat) (t8_c : Nat) (t9_n : Nat) (t9_l : Nat) (t9_c : Nat) (t15 : Int) (t20 : Int) (t21 : Int) (t54 : Int) (t55 : Int) (t119 : Int) (t120 : Int) (t141 : Int) (h0 : List (Nat × Nat)) (h1 : List (List Int)) (h3 : List (Nat × Nat)) (h4 : List Int) (h5 : Int) (t142 : Int) (h2 : List (List Int)) (kn : Int → (List (List Int)) → β) (k0 : (List (List Int)) → β) : β :=
  cond (decide (t142 < t141)) (cond (t8_n.beq h3.length && (decide (0 ≤ t20) && decide (t20 < (↑t8_l : Int)))) (cond (t8_n.beq h3.length && t20.toNat.blt h3.length) (cond (t8_n.beq h3.length && (decide (0 ≤ t20) && decide (t20 < (↑t8_l : Int)))) (cond (t8_n.beq h3.length && t20.toNat.blt h3.length) (cond ((h3[t20.toNat]?.getD (0, 0)).snd.beq (h2[(h3[t20.toNat]?.getD (0, 0)).fst]?.getD []).length && (decide (0 ≤ t142) && decide (t142 < (↑(h3[t20.toNat]?.getD (0, 0)).snd : Int)))) (cond ((h3[t20.toNat]?.getD (0, 0)).snd.beq (h2[(h3[t20.toNat]?.getD (0, 0)).fst]?.getD []).length && t142.toNat.blt (h2[(h3[t20.toNat]?.getD (0, 0)).fst]?.getD []).length) (cond (fits IntKind.i64 (t2 - t21)) (cond (t8_n.beq h3.length && (decide (0 ≤ t15) && decide (t15 < (↑t8_l : Int)))) (cond (t8_n.beq h3.length && t15.toNat.blt h3.length) (cond ((h3[t15.toNat]?.getD (0, 0)).snd.beq (h2[(h3[t15.toNat]?.getD (0, 0)).fst]?.getD []).length && (decide (0 ≤ t142) && decide (t142 < (↑(h3[t15.toNat]?.getD (0, 0)).snd : Int)))) (cond ((h3[t15.toNat]?.getD (0, 0)).snd.beq (h2[(h3[t15.toNat]?.getD (0, 0)).fst]?.getD []).length && t142.toNat.blt (h2[(h3[t15.toNat]?.getD (0, 0)).fst]?.getD []).length) (cond (fits IntKind.i64 ((t2 - t21) * (h2[(h3[t15.toNat]?.getD (0, 0)).fst]?.getD [])[t142.toNat]?.getD 0)) (cond (fits IntKind.i64 ((h2[(h3[t20.toNat]?.getD (0, 0)).fst]?.getD [])[t142.toNat]?.getD 0 + (t2 - t21) * (h2[(h3[t15.toNat]?.getD (0, 0)).fst]?.getD [])[t142.toNat]?.getD 0)) (cond (!t2 == 0) (cond ((h3[t20.toNat]?.getD (0, 0)).snd.beq (h2[(h3[t20.toNat]?.getD (0, 0)).fst]?.getD []).length && (decide (0 ≤ t142) && decide (t142 < (↑(h3[t20.toNat]?.getD (0, 0)).snd : Int)))) (cond ((h3[t20.toNat]?.getD (0, 0)).snd.beq (h2[(h3[t20.toNat]?.getD (0, 0)).fst]?.getD []).length && t142.toNat.blt (h2[(h3[t20.toNat]?.getD (0, 0)).fst]?.getD []).length) (cond (fits IntKind.i64 (t142 + 1)) (kn (t142 + 1) (h2.set (h3[t20.toNat]?.getD (0, 0)).fst ((h2[(h3[t20.toNat]?.getD (0, 0)).fst]?.getD []).set t142.toNat (((h2[(h3[t20.toNat]?.getD (0, 0)).fst]?.getD [])[t142.toNat]?.getD 0 + (t2 - t21) * (h2[(h3[t15.toNat]?.getD (0, 0)).fst]?.getD [])[t142.toNat]?.getD 0).tmod t2)))) (z)) (z)) (z)) (z)) (z)) (z)) (z)) (z)) (z)) (z)) (z)) (z)) (z)) (z)) (z)) (z)) (z)) (k0 h2)
def i_echelon_l5 {β : Type} (z : β) (t2 : Int) (t8_n : Nat) (t8_l : Nat) (t8_c : Nat) (t9_n : Nat) (t9_l : Nat) (t9_c : Nat) (t15 : Int) (t20 : Int) (t21 : Int) (t54 : Int) (t55 : Int) (t119 : Int) (t120 : Int) (t141 : Int) (h0 : List (Nat × Nat)) (h1 : List (List Int)) (h3 : List (Nat × Nat)) (h4 : List Int) (h5 : Int) : Nat → Int → (List (List Int)) → ((List (List Int)) → β) → β
  | 0, _, _, _ => z
  | m + 1, t142, h2, k0 => i_echelon_l5_s z t2 t8_n t8_l t8_c t9_n t9_l t9_c t15 t20 t21 t54 t55 t119 t120 t141 h0 h1 h3 h4 h5 t142 h2 (fun t142 h2 => i_echelon_l5 z t2 t8_n t8_l t8_c t9_n t9_l t9_c t15 t20 t21 t54 t55 t119 t120 t141 h0 h1 h3 h4 h5 m t142 h2 k0) k0

/-- impl.echelon, loop -/
def i_echelon_l4_s {β : Type} (z : β) (N : Nat) (t2 : Int) (t8_n : Nat) (t8_l : Nat) (t8_c : Nat) (t9_n : Nat) (t9_l : Nat) (t9_c : Nat) (t15 : Int) (t54 : Int) (t55 : Int) (t119 : Int) (h0 : List (Nat × Nat)) (h1 : List (List Int)) (h3 : List (Nat × Nat)) (h4 : List Int) (h5 : Int) (t120 : Int) (h2 : List (List Int)) (kn : Int → (List (List Int)) → β) (k0 : (List (List Int)) → β) : β :=
  cond (decide (t120 < t119)) (cond (t8_n.beq h3.length && (decide (0 ≤ t120) && decide (t120 < (↑t8_l : Int)))) (cond (t8_n.beq h3.length && t120.toNat.blt h3.length) (cond ((h3[t120.toNat]?.getD (0, 0)).snd.beq (h2[(h3[t120.toNat]?.getD (0, 0)).fst]?.getD []).length && (decide (0 ≤ h5) && decide (h5 < (↑(h3[t120.toNat]?.getD (0, 0)).snd : Int)))) (cond ((h3[t120.toNat]?.getD (0, 0)).snd.beq (h2[(h3[t120.toNat]?.getD (0, 0)).fst]?.getD []).length && h5.toNat.blt (h2[(h3[t120.toNat]?.getD (0, 0)).fst]?.getD []).length) (cond (t120 != t15) (cond ((h2[(h3[t120.toNat]?.getD (0, 0)).fst]?.getD [])[h5.toNat]?.getD 0 != 0) (cond (t8_n.beq h3.length && (decide (0 ≤ t120) && decide (t120 < (↑t8_l : Int)))) (cond (t8_n.beq h3.length && t120.toNat.blt h3.length) (cond ((h3[t120.toNat]?.getD (0, 0)).snd.ble 9223372036854775807) (i_echelon_l5 z t2 t8_n t8_l t8_c t9_n t9_l t9_c t15 t120 ((h2[(h3[t120.toNat]?.getD (0, 0)).fst]?.getD [])[h5.toNat]?.getD 0) t54 t55 t119 t120 (↑(h3[t120.toNat]?.getD (0, 0)).snd : Int) h0 h1 h3 h4 h5 N 0 h2 (fun q22 => cond (fits IntKind.i64 (t120 + 1)) (kn (t120 + 1) q22) (z))) (z)) (z)) (z)) (cond (fits IntKind.i64 (t120 + 1)) (kn (t120 + 1) h2) (z))) (cond (fits IntKind.i64 (t120 + 1)) (kn (t120 + 1) h2) (z))) (z)) (z)) (z)) (z)) (k0 h2)
def i_echelon_l4 {β : Type} (z : β) (N : Nat) (t2 : Int) (t8_n : Nat) (t8_l : Nat) (t8_c : Nat) (t9_n : Nat) (t9_l : Nat) (t9_c : Nat) (t15 : Int) (t54 : Int) (t55 : Int) (t119 : Int) (h0 : List (Nat × Nat)) (h1 : List (List Int)) (h3 : List (Nat × Nat)) (h4 : List Int) (h5 : Int) : Nat → Int → (List (List Int)) → ((List (List Int)) → β) → β
  | 0, _, _, _ => z
  | m + 1, t120, h2, k0 => i_echelon_l4_s z N t2 t8_n t8_l t8_c t9_n t9_l t9_c t15 t54 t55 t119 h0 h1 h3 h4 h5 t120 h2 (fun t120 h2 => i_echelon_l4 z N t2 t8_n t8_l t8_c t9_n t9_l t9_c t15 t54 t55 t119 h0 h1 h3 h4 h5 m t120 h2 k0) k0

/-- impl.echelon, loop -/
def i_echelon_l2_s {β : Type} (z : β) (N : Nat) (t2 : Int) (t8_n : Nat) (t8_l : Nat) (t8_c : Nat) (t54 : Int) (h0 : List (Nat × Nat)) (h1 : List (List Int)) (t9_n : Nat) (t9_l : Nat) (t9_c : Nat) (t15 : Int) (t55 : Int) (h2 : List (List Int)) (h3 : List (Nat × Nat)) (h4 : List Int) (kn : Nat → Nat → Nat → Int → Int → (List (List Int)) → (List (Nat × Nat)) → (List Int) → β) (k0 : Nat → Nat → Nat → Int → (List (List Int)) → (List (Nat × Nat)) → (List Int) → β) : β :=
  cond (decide (t55 < t54)) (cond (t8_n.beq h3.length && true) (cond (decide (0 ≤ t15) && decide (t15 ≤ (↑t8_l : Int)) && decide ((↑t8_l : Int) ≤ (↑t8_c : Int)) && decide ((↑t8_c : Int) ≤ (↑t8_c : Int))) (cond (t15.toNat.beq 0) (slices_IndexFunc_int64_int64_s2 z N 0 t8_n ((↑t8_l : Int).toNat - t15.toNat) ((↑t8_c : Int).toNat - t15.toNat) h3 t55 h2 (fun q19 => cond (decide (q19 < 0)) (cond (fits IntKind.i64 (t55 + 1)) (kn t9_n t9_l t9_c t15 (t55 + 1) h2 h3 h4) (z)) (cond (fits IntKind.i64 (t15 + q19)) (cond (fits IntKind.i64 (t15 + q19)) (cond (t8_n.beq h3.length && (decide (0 ≤ t15 + q19) && decide (t15 + q19 < (↑t8_l : Int)))) (cond (t8_n.beq h3.length && (t15 + q19).toNat.blt h3.length) (cond (t8_n.beq h3.length && (decide (0 ≤ t15) && decide (t15 < (↑t8_l : Int)))) (cond (t8_n.beq h3.length && t15.toNat.blt h3.length) (cond (t8_n.beq h3.length && (decide (0 ≤ t15) && decide (t15 < (↑t8_l : Int)))) (cond (t8_n.beq h3.length && t15.toNat.blt h3.length && ((h3[(t15 + q19).toNat]?.getD (0, 0)).snd.beq (h3[(t15 + q19).toNat]?.getD (0, 0)).snd && (h3[(t15 + q19).toNat]?.getD (0, 0)).snd.beq (h3[(t15 + q19).toNat]?.getD (0, 0)).snd)) (cond (t8_n.beq (h3.set t15.toNat ((h3[(t15 + q19).toNat]?.getD (0, 0)).fst, (h3[(t15 + q19).toNat]?.getD (0, 0)).snd)).length && (decide (0 ≤ t15 + q19) && decide (t15 + q19 < (↑t8_l : Int)))) (cond (t8_n.beq (h3.set t15.toNat ((h3[(t15 + q19).toNat]?.getD (0, 0)).fst, (h3[(t15 + q19).toNat]?.getD (0, 0)).snd)).length && (t15 + q19).toNat.blt (h3.set t15.toNat ((h3[(t15 + q19).toNat]?.getD (0, 0)).fst, (h3[(t15 + q19).toNat]?.getD (0, 0)).snd)).length && ((h3[t15.toNat]?.getD (0, 0)).snd.beq (h3[t15.toNat]?.getD (0, 0)).snd && (h3[t15.toNat]?.getD (0, 0)).snd.beq (h3[t15.toNat]?.getD (0, 0)).snd)) (cond (t8_n.beq ((h3.set t15.toNat ((h3[(t15 + q19).toNat]?.getD (0, 0)).fst, (h3[(t15 + q19).toNat]?.getD (0, 0)).snd)).set (t15 + q19).toNat ((h3[t15.toNat]?.getD (0, 0)).fst, (h3[t15.toNat]?.getD (0, 0)).snd)).length && (decide (0 ≤ t15) && decide (t15 < (↑t8_l : Int)))) (cond (t8_n.beq ((h3.set t15.toNat ((h3[(t15 + q19).toNat]?.getD (0, 0)).fst, (h3[(t15 + q19).toNat]?.getD (0, 0)).snd)).set (t15 + q19).toNat ((h3[t15.toNat]?.getD (0, 0)).fst, (h3[t15.toNat]?.getD (0, 0)).snd)).length && t15.toNat.blt ((h3.set t15.toNat ((h3[(t15 + q19).toNat]?.getD (0, 0)).fst, (h3[(t15 + q19).toNat]?.getD (0, 0)).snd)).set (t15 + q19).toNat ((h3[t15.toNat]?.getD (0, 0)).fst, (h3[t15.toNat]?.getD (0, 0)).snd)).length) (cond ((((h3.set t15.toNat ((h3[(t15 + q19).toNat]?.getD (0, 0)).fst, (h3[(t15 + q19).toNat]?.getD (0, 0)).snd)).set (t15 + q19).toNat ((h3[t15.toNat]?.getD (0, 0)).fst, (h3[t15.toNat]?.getD (0, 0)).snd))[t15.toNat]?.getD (0, 0)).snd.beq (h2[(((h3.set t15.toNat ((h3[(t15 + q19).toNat]?.getD (0, 0)).fst, (h3[(t15 + q19).toNat]?.getD (0, 0)).snd)).set (t15 + q19).toNat ((h3[t15.toNat]?.getD (0, 0)).fst, (h3[t15.toNat]?.getD (0, 0)).snd))[t15.toNat]?.getD (0, 0)).fst]?.getD []).length && (decide (0 ≤ t55) && decide (t55 < (↑(((h3.set t15.toNat ((h3[(t15 + q19).toNat]?.getD (0, 0)).fst, (h3[(t15 + q19).toNat]?.getD (0, 0)).snd)).set (t15 + q19).toNat ((h3[t15.toNat]?.getD (0, 0)).fst, (h3[t15.toNat]?.getD (0, 0)).snd))[t15.toNat]?.getD (0, 0)).snd : Int)))) (cond ((((h3.set t15.toNat ((h3[(t15 + q19).toNat]?.getD (0, 0)).fst, (h3[(t15 + q19).toNat]?.getD (0, 0)).snd)).set (t15 + q19).toNat ((h3[t15.toNat]?.getD (0, 0)).fst, (h3[t15.toNat]?.getD (0, 0)).snd))[t15.toNat]?.getD (0, 0)).snd.beq (h2[(((h3.set t15.toNat ((h3[(t15 + q19).toNat]?.getD (0, 0)).fst, (h3[(t15 + q19).toNat]?.getD (0, 0)).snd)).set (t15 + q19).toNat ((h3[t15.toNat]?.getD (0, 0)).fst, (h3[t15.toNat]?.getD (0, 0)).snd))[t15.toNat]?.getD (0, 0)).fst]?.getD []).length && t55.toNat.blt (h2[(((h3.set t15.toNat ((h3[(t15 + q19).toNat]?.getD (0, 0)).fst, (h3[(t15 + q19).toNat]?.getD (0, 0)).snd)).set (t15 + q19).toNat ((h3[t15.toNat]?.getD (0, 0)).fst, (h3[t15.toNat]?.getD (0, 0)).snd))[t15.toNat]?.getD (0, 0)).fst]?.getD []).length) (i_inverse z N ((h2[(((h3.set t15.toNat ((h3[(t15 + q19).toNat]?.getD (0, 0)).fst, (h3[(t15 + q19).toNat]?.getD (0, 0)).snd)).set (t15 + q19).toNat ((h3[t15.toNat]?.getD (0, 0)).fst, (h3[t15.toNat]?.getD (0, 0)).snd))[t15.toNat]?.getD (0, 0)).fst]?.getD [])[t55.toNat]?.getD 0) t2 (fun q20 => cond (t8_n.beq ((h3.set t15.toNat ((h3[(t15 + q19).toNat]?.getD (0, 0)).fst, (h3[(t15 + q19).toNat]?.getD (0, 0)).snd)).set (t15 + q19).toNat ((h3[t15.toNat]?.getD (0, 0)).fst, (h3[t15.toNat]?.getD (0, 0)).snd)).length && (decide (0 ≤ t15) && decide (t15 < (↑t8_l : Int)))) (cond (t8_n.beq ((h3.set t15.toNat ((h3[(t15 + q19).toNat]?.getD (0, 0)).fst, (h3[(t15 + q19).toNat]?.getD (0, 0)).snd)).set (t15 + q19).toNat ((h3[t15.toNat]?.getD (0, 0)).fst, (h3[t15.toNat]?.getD (0, 0)).snd)).length && t15.toNat.blt ((h3.set t15.toNat ((h3[(t15 + q19).toNat]?.getD (0, 0)).fst, (h3[(t15 + q19).toNat]?.getD (0, 0)).snd)).set (t15 + q19).toNat ((h3[t15.toNat]?.getD (0, 0)).fst, (h3[t15.toNat]?.getD (0, 0)).snd)).length) (cond ((((h3.set t15.toNat ((h3[(t15 + q19).toNat]?.getD (0, 0)).fst, (h3[(t15 + q19).toNat]?.getD (0, 0)).snd)).set (t15 + q19).toNat ((h3[t15.toNat]?.getD (0, 0)).fst, (h3[t15.toNat]?.getD (0, 0)).snd))[t15.toNat]?.getD (0, 0)).snd.ble 9223372036854775807) (i_echelon_l3 z t2 t8_n t8_l t8_c t9_n t9_l t9_c t15 q20 t54 t55 (↑(((h3.set t15.toNat ((h3[(t15 + q19).toNat]?.getD (0, 0)).fst, (h3[(t15 + q19).toNat]?.getD (0, 0)).snd)).set (t15 + q19).toNat ((h3[t15.toNat]?.getD (0, 0)).fst, (h3[t15.toNat]?.getD (0, 0)).snd))[t15.toNat]?.getD (0, 0)).snd : Int) h0 h1 ((h3.set t15.toNat ((h3[(t15 + q19).toNat]?.getD (0, 0)).fst, (h3[(t15 + q19).toNat]?.getD (0, 0)).snd)).set (t15 + q19).toNat ((h3[t15.toNat]?.getD (0, 0)).fst, (h3[t15.toNat]?.getD (0, 0)).snd)) h4 t55 N 0 h2 (fun q21 => cond (t8_l.ble 9223372036854775807) (i_echelon_l4 z N t2 t8_n t8_l t8_c t9_n t9_l t9_c t15 t54 t55 (↑t8_l : Int) h0 h1 ((h3.set t15.toNat ((h3[(t15 + q19).toNat]?.getD (0, 0)).fst, (h3[(t15 + q19).toNat]?.getD (0, 0)).snd)).set (t15 + q19).toNat ((h3[t15.toNat]?.getD (0, 0)).fst, (h3[t15.toNat]?.getD (0, 0)).snd)) h4 t55 N 0 q21 (fun q22 => cond (t9_n.beq h4.length && true) (cond ((t9_l + 1).ble 1099511627776 && ((t9_l + 1) * 8).ble 1099511627776) (cond ((t9_l + 1).ble t9_c) (cond (t9_n.beq h4.length && (0 + t9_l + 1).ble h4.length) (cond (fits IntKind.i64 (t15 + 1)) (cond (fits IntKind.i64 (t55 + 1)) (kn t9_n (t9_l + 1) t9_c (t15 + 1) (t55 + 1) q22 ((h3.set t15.toNat ((h3[(t15 + q19).toNat]?.getD (0, 0)).fst, (h3[(t15 + q19).toNat]?.getD (0, 0)).snd)).set (t15 + q19).toNat ((h3[t15.toNat]?.getD (0, 0)).fst, (h3[t15.toNat]?.getD (0, 0)).snd)) (List.take (0 + t9_l) h4 ++ (fromTo ((List.replicate 1 0).set 0 t55) 0 1 ++ List.drop (0 + t9_l + 1) h4))) (z)) (z)) (z)) (cond (t9_l.beq h4.length) (cond (fits IntKind.i64 (t15 + 1)) (cond (fits IntKind.i64 (t55 + 1)) (kn ((h4 ++ fromTo ((List.replicate 1 0).set 0 t55) 0 1).length) (t9_l + 1) (t9_l + 1) (t15 + 1) (t55 + 1) q22 ((h3.set t15.toNat ((h3[(t15 + q19).toNat]?.getD (0, 0)).fst, (h3[(t15 + q19).toNat]?.getD (0, 0)).snd)).set (t15 + q19).toNat ((h3[t15.toNat]?.getD (0, 0)).fst, (h3[t15.toNat]?.getD (0, 0)).snd)) (h4 ++ fromTo ((List.replicate 1 0).set 0 t55) 0 1)) (z)) (z)) (z))) (z)) (z))) (z))) (z)) (z)) (z))) (z)) (z)) (z)) (z)) (z)) (z)) (z)) (z)) (z)) (z)) (z)) (z)) (z)) (z)))) (cond (false || t15.toNat.blt (↑t8_c : Int).toNat) (slices_IndexFunc_int64_int64_s2 z N (offS (↑t8_c : Int).toNat t15.toNat 1) t8_n ((↑t8_l : Int).toNat - t15.toNat) ((↑t8_c : Int).toNat - t15.toNat) h3 t55 h2 (fun q19 => cond (decide (q19 < 0)) (cond (fits IntKind.i64 (t55 + 1)) (kn t9_n t9_l t9_c t15 (t55 + 1) h2 h3 h4) (z)) (cond (fits IntKind.i64 (t15 + q19)) (cond (fits IntKind.i64 (t15 + q19)) (cond (t8_n.beq h3.length && (decide (0 ≤ t15 + q19) && decide (t15 + q19 < (↑t8_l : Int)))) (cond (t8_n.beq h3.length && (t15 + q19).toNat.blt h3.length) (cond (t8_n.beq h3.length && (decide (0 ≤ t15) && decide (t15 < (↑t8_l : Int)))) (cond (t8_n.beq h3.length && t15.toNat.blt h3.length) (cond (t8_n.beq h3.length && (decide (0 ≤ t15) && decide (t15 < (↑t8_l : Int)))) (cond (t8_n.beq h3.length && t15.toNat.blt h3.length && ((h3[(t15 + q19).toNat]?.getD (0, 0)).snd.beq (h3[(t15 + q19).toNat]?.getD (0, 0)).snd && (h3[(t15 + q19).toNat]?.getD (0, 0)).snd.beq (h3[(t15 + q19).toNat]?.getD (0, 0)).snd)) (cond (t8_n.beq (h3.set t15.toNat ((h3[(t15 + q19).toNat]?.getD (0, 0)).fst, (h3[(t15 + q19).toNat]?.getD (0, 0)).snd)).length && (decide (0 ≤ t15 + q19) && decide (t15 + q19 < (↑t8_l : Int)))) (cond (t8_n.beq (h3.set t15.toNat ((h3[(t15 + q19).toNat]?.getD (0, 0)).fst, (h3[(t15 + q19).toNat]?.getD (0, 0)).snd)).length && (t15 + q19).toNat.blt (h3.set t15.toNat ((h3[(t15 + q19).toNat]?.getD (0, 0)).fst, (h3[(t15 + q19).toNat]?.getD (0, 0)).snd)).length && ((h3[t15.toNat]?.getD (0, 0)).snd.beq (h3[t15.toNat]?.getD (0, 0)).snd && (h3[t15.toNat]?.getD (0, 0)).snd.beq (h3[t15.toNat]?.getD (0, 0)).snd)) (cond (t8_n.beq ((h3.set t15.toNat ((h3[(t15 + q19).toNat]?.getD (0, 0)).fst, (h3[(t15 + q19).toNat]?.getD (0, 0)).snd)).set (t15 + q19).toNat ((h3[t15.toNat]?.getD (0, 0)).fst, (h3[t15.toNat]?.getD (0, 0)).snd)).length && (decide (0 ≤ t15) && decide (t15 < (↑t8_l : Int)))) (cond (t8_n.beq ((h3.set t15.toNat ((h3[(t15 + q19).toNat]?.getD (0, 0)).fst, (h3[(t15 + q19).toNat]?.getD (0, 0)).snd)).set (t15 + q19).toNat ((h3[t15.toNat]?.getD (0, 0)).fst, (h3[t15.toNat]?.getD (0, 0)).snd)).length && t15.toNat.blt ((h3.set t15.toNat ((h3[(t15 + q19).toNat]?.getD (0, 0)).fst, (h3[(t15 + q19).toNat]?.getD (0, 0)).snd)).set (t15 + q19).toNat ((h3[t15.toNat]?.getD (0, 0)).fst, (h3[t15.toNat]?.getD (0, 0)).snd)).length) (cond ((((h3.set t15.toNat ((h3[(t15 + q19).toNat]?.getD (0, 0)).fst, (h3[(t15 + q19).toNat]?.getD (0, 0)).snd)).set (t15 + q19).toNat ((h3[t15.toNat]?.getD (0, 0)).fst, (h3[t15.toNat]?.getD (0, 0)).snd))[t15.toNat]?.getD (0, 0)).snd.beq (h2[(((h3.set t15.toNat ((h3[(t15 + q19).toNat]?.getD (0, 0)).fst, (h3[(t15 + q19).toNat]?.getD (0, 0)).snd)).set (t15 + q19).toNat ((h3[t15.toNat]?.getD (0, 0)).fst, (h3[t15.toNat]?.getD (0, 0)).snd))[t15.toNat]?.getD (0, 0)).fst]?.getD []).length && (decide (0 ≤ t55) && decide (t55 < (↑(((h3.set t15.toNat ((h3[(t15 + q19).toNat]?.getD (0, 0)).fst, (h3[(t15 + q19).toNat]?.getD (0, 0)).snd)).set (t15 + q19).toNat ((h3[t15.toNat]?.getD (0, 0)).fst, (h3[t15.toNat]?.getD (0, 0)).snd))[t15.toNat]?.getD (0, 0)).snd : Int)))) (cond ((((h3.set t15.toNat ((h3[(t15 + q19).toNat]?.getD (0, 0)).fst, (h3[(t15 + q19).toNat]?.getD (0, 0)).snd)).set (t15 + q19).toNat ((h3[t15.toNat]?.getD (0, 0)).fst, (h3[t15.toNat]?.getD (0, 0)).snd))[t15.toNat]?.getD (0, 0)).snd.beq (h2[(((h3.set t15.toNat ((h3[(t15 + q19).toNat]?.getD (0, 0)).fst, (h3[(t15 + q19).toNat]?.getD (0, 0)).snd)).set (t15 + q19).toNat ((h3[t15.toNat]?.getD (0, 0)).fst, (h3[t15.toNat]?.getD (0, 0)).snd))[t15.toNat]?.getD (0, 0)).fst]?.getD []).length && t55.toNat.blt (h2[(((h3.set t15.toNat ((h3[(t15 + q19).toNat]?.getD (0, 0)).fst, (h3[(t15 + q19).toNat]?.getD (0, 0)).snd)).set (t15 + q19).toNat ((h3[t15.toNat]?.getD (0, 0)).fst, (h3[t15.toNat]?.getD (0, 0)).snd))[t15.toNat]?.getD (0, 0)).fst]?.getD []).length) (i_inverse z N ((h2[(((h3.set t15.toNat ((h3[(t15 + q19).toNat]?.getD (0, 0)).fst, (h3[(t15 + q19).toNat]?.getD (0, 0)).snd)).set (t15 + q19).toNat ((h3[t15.toNat]?.getD (0, 0)).fst, (h3[t15.toNat]?.getD (0, 0)).snd))[t15.toNat]?.getD (0, 0)).fst]?.getD [])[t55.toNat]?.getD 0) t2 (fun q20 => cond (t8_n.beq ((h3.set t15.toNat ((h3[(t15 + q19).toNat]?.getD (0, 0)).fst, (h3[(t15 + q19).toNat]?.getD (0, 0)).snd)).set (t15 + q19).toNat ((h3[t15.toNat]?.getD (0, 0)).fst, (h3[t15.toNat]?.getD (0, 0)).snd)).length && (decide (0 ≤ t15) && decide (t15 < (↑t8_l : Int)))) (cond (t8_n.beq ((h3.set t15.toNat ((h3[(t15 + q19).toNat]?.getD (0, 0)).fst, (h3[(t15 + q19).toNat]?.getD (0, 0)).snd)).set (t15 + q19).toNat ((h3[t15.toNat]?.getD (0, 0)).fst, (h3[t15.toNat]?.getD (0, 0)).snd)).length && t15.toNat.blt ((h3.set t15.toNat ((h3[(t15 + q19).toNat]?.getD (0, 0)).fst, (h3[(t15 + q19).toNat]?.getD (0, 0)).snd)).set (t15 + q19).toNat ((h3[t15.toNat]?.getD (0, 0)).fst, (h3[t15.toNat]?.getD (0, 0)).snd)).length) (cond ((((h3.set t15.toNat ((h3[(t15 + q19).toNat]?.getD (0, 0)).fst, (h3[(t15 + q19).toNat]?.getD (0, 0)).snd)).set (t15 + q19).toNat ((h3[t15.toNat]?.getD (0, 0)).fst, (h3[t15.toNat]?.getD (0, 0)).snd))[t15.toNat]?.getD (0, 0)).snd.ble 9223372036854775807) (i_echelon_l3 z t2 t8_n t8_l t8_c t9_n t9_l t9_c t15 q20 t54 t55 (↑(((h3.set t15.toNat ((h3[(t15 + q19).toNat]?.getD (0, 0)).fst, (h3[(t15 + q19).toNat]?.getD (0, 0)).snd)).set (t15 + q19).toNat ((h3[t15.toNat]?.getD (0, 0)).fst, (h3[t15.toNat]?.getD (0, 0)).snd))[t15.toNat]?.getD (0, 0)).snd : Int) h0 h1 ((h3.set t15.toNat ((h3[(t15 + q19).toNat]?.getD (0, 0)).fst, (h3[(t15 + q19).toNat]?.getD (0, 0)).snd)).set (t15 + q19).toNat ((h3[t15.toNat]?.getD (0, 0)).fst, (h3[t15.toNat]?.getD (0, 0)).snd)) h4 t55 N 0 h2 (fun q21 => cond (t8_l.ble 9223372036854775807) (i_echelon_l4 z N t2 t8_n t8_l t8_c t9_n t9_l t9_c t15 t54 t55 (↑t8_l : Int) h0 h1 ((h3.set t15.toNat ((h3[(t15 + q19).toNat]?.getD (0, 0)).fst, (h3[(t15 + q19).toNat]?.getD (0, 0)).snd)).set (t15 + q19).toNat ((h3[t15.toNat]?.getD (0, 0)).fst, (h3[t15.toNat]?.getD (0, 0)).snd)) h4 t55 N 0 q21 (fun q22 => cond (t9_n.beq h4.length && true) (cond ((t9_l + 1).ble 1099511627776 && ((t9_l + 1) * 8).ble 1099511627776) (cond ((t9_l + 1).ble t9_c) (cond (t9_n.beq h4.length && (0 + t9_l + 1).ble h4.length) (cond (fits IntKind.i64 (t15 + 1)) (cond (fits IntKind.i64 (t55 + 1)) (kn t9_n (t9_l + 1) t9_c (t15 + 1) (t55 + 1) q22 ((h3.set t15.toNat ((h3[(t15 + q19).toNat]?.getD (0, 0)).fst, (h3[(t15 + q19).toNat]?.getD (0, 0)).snd)).set (t15 + q19).toNat ((h3[t15.toNat]?.getD (0, 0)).fst, (h3[t15.toNat]?.getD (0, 0)).snd)) (List.take (0 + t9_l) h4 ++ (fromTo ((List.replicate 1 0).set 0 t55) 0 1 ++ List.drop (0 + t9_l + 1) h4))) (z)) (z)) (z)) (cond (t9_l.beq h4.length) (cond (fits IntKind.i64 (t15 + 1)) (cond (fits IntKind.i64 (t55 + 1)) (kn ((h4 ++ fromTo ((List.replicate 1 0).set 0 t55) 0 1).length) (t9_l + 1) (t9_l + 1) (t15 + 1) (t55 + 1) q22 ((h3.set t15.toNat ((h3[(t15 + q19).toNat]?.getD (0, 0)).fst, (h3[(t15 + q19).toNat]?.getD (0, 0)).snd)).set (t15 + q19).toNat ((h3[t15.toNat]?.getD (0, 0)).fst, (h3[t15.toNat]?.getD (0, 0)).snd)) (h4 ++ fromTo ((List.replicate 1 0).set 0 t55) 0 1)) (z)) (z)) (z))) (z)) (z))) (z))) (z)) (z)) (z))) (z)) (z)) (z)) (z)) (z)) (z)) (z)) (z)) (z)) (z)) (z)) (z)) (z)) (z)))) (cond (Nat.blt 0 t8_n) (slices_IndexFunc_int64_int64_s2 z N 0 (t8_n - 1) ((↑t8_l : Int).toNat - t15.toNat) ((↑t8_c : Int).toNat - t15.toNat) h3 t55 h2 (fun q19 => cond (decide (q19 < 0)) (cond (fits IntKind.i64 (t55 + 1)) (kn t9_n t9_l t9_c t15 (t55 + 1) h2 h3 h4) (z)) (cond (fits IntKind.i64 (t15 + q19)) (cond (fits IntKind.i64 (t15 + q19)) (cond (t8_n.beq h3.length && (decide (0 ≤ t15 + q19) && decide (t15 + q19 < (↑t8_l : Int)))) (cond (t8_n.beq h3.length && (t15 + q19).toNat.blt h3.length) (cond (t8_n.beq h3.length && (decide (0 ≤ t15) && decide (t15 < (↑t8_l : Int)))) (cond (t8_n.beq h3.length && t15.toNat.blt h3.length) (cond (t8_n.beq h3.length && (decide (0 ≤ t15) && decide (t15 < (↑t8_l : Int)))) (cond (t8_n.beq h3.length && t15.toNat.blt h3.length && ((h3[(t15 + q19).toNat]?.getD (0, 0)).snd.beq (h3[(t15 + q19).toNat]?.getD (0, 0)).snd && (h3[(t15 + q19).toNat]?.getD (0, 0)).snd.beq (h3[(t15 + q19).toNat]?.getD (0, 0)).snd)) (cond (t8_n.beq (h3.set t15.toNat ((h3[(t15 + q19).toNat]?.getD (0, 0)).fst, (h3[(t15 + q19).toNat]?.getD (0, 0)).snd)).length && (decide (0 ≤ t15 + q19) && decide (t15 + q19 < (↑t8_l : Int)))) (cond (t8_n.beq (h3.set t15.toNat ((h3[(t15 + q19).toNat]?.getD (0, 0)).fst, (h3[(t15 + q19).toNat]?.getD (0, 0)).snd)).length && (t15 + q19).toNat.blt (h3.set t15.toNat ((h3[(t15 + q19).toNat]?.getD (0, 0)).fst, (h3[(t15 + q19).toNat]?.getD (0, 0)).snd)).length && ((h3[t15.toNat]?.getD (0, 0)).snd.beq (h3[t15.toNat]?.getD (0, 0)).snd && (h3[t15.toNat]?.getD (0, 0)).snd.beq (h3[t15.toNat]?.getD (0, 0)).snd)) (cond (t8_n.beq ((h3.set t15.toNat ((h3[(t15 + q19).toNat]?.getD (0, 0)).fst, (h3[(t15 + q19).toNat]?.getD (0, 0)).snd)).set (t15 + q19).toNat ((h3[t15.toNat]?.getD (0, 0)).fst, (h3[t15.toNat]?.getD (0, 0)).snd)).length && (decide (0 ≤ t15) && decide (t15 < (↑t8_l : Int)))) (cond (t8_n.beq ((h3.set t15.toNat ((h3[(t15 + q19).toNat]?.getD (0, 0)).fst, (h3[(t15 + q19).toNat]?.getD (0, 0)).snd)).set (t15 + q19).toNat ((h3[t15.toNat]?.getD (0, 0)).fst, (h3[t15.toNat]?.getD (0, 0)).snd)).length && t15.toNat.blt ((h3.set t15.toNat ((h3[(t15 + q19).toNat]?.getD (0, 0)).fst, (h3[(t15 + q19).toNat]?.getD (0, 0)).snd)).set (t15 + q19).toNat ((h3[t15.toNat]?.getD (0, 0)).fst, (h3[t15.toNat]?.getD (0, 0)).snd)).length) (cond ((((h3.set t15.toNat ((h3[(t15 + q19).toNat]?.getD (0, 0)).fst, (h3[(t15 + q19).toNat]?.getD (0, 0)).snd)).set (t15 + q19).toNat ((h3[t15.toNat]?.getD (0, 0)).fst, (h3[t15.toNat]?.getD (0, 0)).snd))[t15.toNat]?.getD (0, 0)).snd.beq (h2[(((h3.set t15.toNat ((h3[(t15 + q19).toNat]?.getD (0, 0)).fst, (h3[(t15 + q19).toNat]?.getD (0, 0)).snd)).set (t15 + q19).toNat ((h3[t15.toNat]?.getD (0, 0)).fst, (h3[t15.toNat]?.getD (0, 0)).snd))[t15.toNat]?.getD (0, 0)).fst]?.getD []).length && (decide (0 ≤ t55) && decide (t55 < (↑(((h3.set t15.toNat ((h3[(t15 + q19).toNat]?.getD (0, 0)).fst, (h3[(t15 + q19).toNat]?.getD (0, 0)).snd)).set (t15 + q19).toNat ((h3[t15.toNat]?.getD (0, 0)).fst, (h3[t15.toNat]?.getD (0, 0)).snd))[t15.toNat]?.getD (0, 0)).snd : Int)))) (cond ((((h3.set t15.toNat ((h3[(t15 + q19).toNat]?.getD (0, 0)).fst, (h3[(t15 + q19).toNat]?.getD (0, 0)).snd)).set (t15 + q19).toNat ((h3[t15.toNat]?.getD (0, 0)).fst, (h3[t15.toNat]?.getD (0, 0)).snd))[t15.toNat]?.getD (0, 0)).snd.beq (h2[(((h3.set t15.toNat ((h3[(t15 + q19).toNat]?.getD (0, 0)).fst, (h3[(t15 + q19).toNat]?.getD (0, 0)).snd)).set (t15 + q19).toNat ((h3[t15.toNat]?.getD (0, 0)).fst, (h3[t15.toNat]?.getD (0, 0)).snd))[t15.toNat]?.getD (0, 0)).fst]?.getD []).length && t55.toNat.blt (h2[(((h3.set t15.toNat ((h3[(t15 + q19).toNat]?.getD (0, 0)).fst, (h3[(t15 + q19).toNat]?.getD (0, 0)).snd)).set (t15 + q19).toNat ((h3[t15.toNat]?.getD (0, 0)).fst, (h3[t15.toNat]?.getD (0, 0)).snd))[t15.toNat]?.getD (0, 0)).fst]?.getD []).length) (i_inverse z N ((h2[(((h3.set t15.toNat ((h3[(t15 + q19).toNat]?.getD (0, 0)).fst, (h3[(t15 + q19).toNat]?.getD (0, 0)).snd)).set (t15 + q19).toNat ((h3[t15.toNat]?.getD (0, 0)).fst, (h3[t15.toNat]?.getD (0, 0)).snd))[t15.toNat]?.getD (0, 0)).fst]?.getD [])[t55.toNat]?.getD 0) t2 (fun q20 => cond (t8_n.beq ((h3.set t15.toNat ((h3[(t15 + q19).toNat]?.getD (0, 0)).fst, (h3[(t15 + q19).toNat]?.getD (0, 0)).snd)).set (t15 + q19).toNat ((h3[t15.toNat]?.getD (0, 0)).fst, (h3[t15.toNat]?.getD (0, 0)).snd)).length && (decide (0 ≤ t15) && decide (t15 < (↑t8_l : Int)))) (cond (t8_n.beq ((h3.set t15.toNat ((h3[(t15 + q19).toNat]?.getD (0, 0)).fst, (h3[(t15 + q19).toNat]?.getD (0, 0)).snd)).set (t15 + q19).toNat ((h3[t15.toNat]?.getD (0, 0)).fst, (h3[t15.toNat]?.getD (0, 0)).snd)).length && t15.toNat.blt ((h3.set t15.toNat ((h3[(t15 + q19).toNat]?.getD (0, 0)).fst, (h3[(t15 + q19).toNat]?.getD (0, 0)).snd)).set (t15 + q19).toNat ((h3[t15.toNat]?.getD (0, 0)).fst, (h3[t15.toNat]?.getD (0, 0)).snd)).length) (cond ((((h3.set t15.toNat ((h3[(t15 + q19).toNat]?.getD (0, 0)).fst, (h3[(t15 + q19).toNat]?.getD (0, 0)).snd)).set (t15 + q19).toNat ((h3[t15.toNat]?.getD (0, 0)).fst, (h3[t15.toNat]?.getD (0, 0)).snd))[t15.toNat]?.getD (0, 0)).snd.ble 9223372036854775807) (i_echelon_l3 z t2 t8_n t8_l t8_c t9_n t9_l t9_c t15 q20 t54 t55 (↑(((h3.set t15.toNat ((h3[(t15 + q19).toNat]?.getD (0, 0)).fst, (h3[(t15 + q19).toNat]?.getD (0, 0)).snd)).set (t15 + q19).toNat ((h3[t15.toNat]?.getD (0, 0)).fst, (h3[t15.toNat]?.getD (0, 0)).snd))[t15.toNat]?.getD (0, 0)).snd : Int) h0 h1 ((h3.set t15.toNat ((h3[(t15 + q19).toNat]?.getD (0, 0)).fst, (h3[(t15 + q19).toNat]?.getD (0, 0)).snd)).set (t15 + q19).toNat ((h3[t15.toNat]?.getD (0, 0)).fst, (h3[t15.toNat]?.getD (0, 0)).snd)) h4 t55 N 0 h2 (fun q21 => cond (t8_l.ble 9223372036854775807) (i_echelon_l4 z N t2 t8_n t8_l t8_c t9_n t9_l t9_c t15 t54 t55 (↑t8_l : Int) h0 h1 ((h3.set t15.toNat ((h3[(t15 + q19).toNat]?.getD (0, 0)).fst, (h3[(t15 + q19).toNat]?.getD (0, 0)).snd)).set (t15 + q19).toNat ((h3[t15.toNat]?.getD (0, 0)).fst, (h3[t15.toNat]?.getD (0, 0)).snd)) h4 t55 N 0 q21 (fun q22 => cond (t9_n.beq h4.length && true) (cond ((t9_l + 1).ble 1099511627776 && ((t9_l + 1) * 8).ble 1099511627776) (cond ((t9_l + 1).ble t9_c) (cond (t9_n.beq h4.length && (0 + t9_l + 1).ble h4.length) (cond (fits IntKind.i64 (t15 + 1)) (cond (fits IntKind.i64 (t55 + 1)) (kn t9_n (t9_l + 1) t9_c (t15 + 1) (t55 + 1) q22 ((h3.set t15.toNat ((h3[(t15 + q19).toNat]?.getD (0, 0)).fst, (h3[(t15 + q19).toNat]?.getD (0, 0)).snd)).set (t15 + q19).toNat ((h3[t15.toNat]?.getD (0, 0)).fst, (h3[t15.toNat]?.getD (0, 0)).snd)) (List.take (0 + t9_l) h4 ++ (fromTo ((List.replicate 1 0).set 0 t55) 0 1 ++ List.drop (0 + t9_l + 1) h4))) (z)) (z)) (z)) (cond (t9_l.beq h4.length) (cond (fits IntKind.i64 (t15 + 1)) (cond (fits IntKind.i64 (t55 + 1)) (kn ((h4 ++ fromTo ((List.replicate 1 0).set 0 t55) 0 1).length) (t9_l + 1) (t9_l + 1) (t15 + 1) (t55 + 1) q22 ((h3.set t15.toNat ((h3[(t15 + q19).toNat]?.getD (0, 0)).fst, (h3[(t15 + q19).toNat]?.getD (0, 0)).snd)).set (t15 + q19).toNat ((h3[t15.toNat]?.getD (0, 0)).fst, (h3[t15.toNat]?.getD (0, 0)).snd)) (h4 ++ fromTo ((List.replicate 1 0).set 0 t55) 0 1)) (z)) (z)) (z))) (z)) (z))) (z))) (z)) (z)) (z))) (z)) (z)) (z)) (z)) (z)) (z)) (z)) (z)) (z)) (z)) (z)) (z)) (z)) (z)))) (z)))) (z)) (z)) (k0 t9_n t9_l t9_c t15 h2 h3 h4)
def i_echelon_l2 {β : Type} (z : β) (N : Nat) (t2 : Int) (t8_n : Nat) (t8_l : Nat) (t8_c : Nat) (t54 : Int) (h0 : List (Nat × Nat)) (h1 : List (List Int)) : Nat → Nat → Nat → Nat → Int → Int → (List (List Int)) → (List (Nat × Nat)) → (List Int) → (Nat → Nat → Nat → Int → (List (List Int)) → (List (Nat × Nat)) → (List Int) → β) → β
  | 0, _, _, _, _, _, _, _, _, _ => z
  | m + 1, t9_n, t9_l, t9_c, t15, t55, h2, h3, h4, k0 => i_echelon_l2_s z N t2 t8_n t8_l t8_c t54 h0 h1 t9_n t9_l t9_c t15 t55 h2 h3 h4 (fun t9_n t9_l t9_c t15 t55 h2 h3 h4 => i_echelon_l2 z N t2 t8_n t8_l t8_c t54 h0 h1 m t9_n t9_l t9_c t15 t55 h2 h3 h4 k0) k0

/-- impl.echelon -/
def i_echelon {β : Type} (z : β) (N : Nat) (lines_n : Nat) (lines_l : Nat) (lines_c : Nat) (a1 : Int) (a2 : Int) (h0 : List (Nat × Nat)) (h1 : List (List Int)) (k0 : Nat → Nat → Nat → Nat → Nat → Nat → (List (List Int)) → (List (Nat × Nat)) → (List Int) → β) : β :=
  cond (lines_l.ble 9223372036854775807) (i_echelon_l0 z N a1 a2 lines_n lines_l lines_c (↑lines_l : Int) h0 h1 (List.replicate 0 0) N 0 0 0 0 (List.replicate 0 []) (List.map (fun (i : Nat) => (i, 0)) (List.range 0)) (fun q10 q11 q12 q13 q14 => i_echelon_l2 z N a2 q10 q11 q12 a1 h0 h1 N 0 0 0 0 0 q13 q14 (List.replicate 0 0) (fun q15 q16 q17 q18 q19 q20 q21 => cond (q10.beq q20.length && true) (cond (decide (0 ≤ q18) && decide (q18 ≤ (↑q12 : Int)) && decide ((↑q12 : Int) ≤ (↑q12 : Int))) (k0 q10 (q18.toNat - 0) ((↑q12 : Int).toNat - 0) q15 q16 q17 q19 q20 q21) (z)) (z)))) (z)

/-- impl.CountColourings$1 -/
def i_CountColourings_1 {β : Type} (z : β) (N : Nat) (h0_0 : Int) (h0_1 : Nat → Int) (h0_2 : Nat → Int) (h1 : Int) (k0 : Int → β) : β :=
  i_Grid_equations z N h0_0 h0_1 h0_2 (fun q7 q8 q9 q10 q11 => i_Grid_n z N h0_0 h0_1 h0_2 (i_echelon z N q7 q8 q9 h0_0 h1 q10 q11 (fun q12 q13 q14 q15 q16 q17 q18 q19 q20 => cond (q16.ble 9223372036854775807) (cond (fits IntKind.i64 (h0_0 - (↑q16 : Int))) (k0 (h0_0 - (↑q16 : Int))) (z)) (z))))

/-- impl.coloured[int64] -/
def i_coloured_int64 {β : Type} (z : β) (N : Nat) (g_0 : Int) (g_1 : Nat → Int) (g_2 : Nat → Int) (p : Int) (h0_0 : Int) (h0_1 : Nat → Int) (h0_2 : Nat → Int) (h1 : Int) (k0 : Int → Int → β) : β :=
  i_IsGrid z N g_0 g_1 g_2 (fun q11 => cond (!q11) (k0 0 1) (i_isPrime z N p (fun q12 => cond (!q12) (k0 0 2) (i_CountColourings_1 z N h0_0 h0_1 h0_2 h1 (fun q13 => k0 q13 0)))))

/-- impl.CountColourings -/
def i_CountColourings {β : Type} (z : β) (N : Nat) (g_0 : Int) (g_1 : Nat → Int) (g_2 : Nat → Int) (p : Int) (k0 : Int → Int → β) : β :=
  i_coloured_int64 z N g_0 g_1 g_2 p g_0 g_1 g_2 p (fun q7 q8 => k0 q7 q8)

/-- laws.FnExactCountColourings -/
def w_FnExactCountColourings {β : Type} (z : β) (N : Nat) (aG_0 : Int) (aG_1 : Nat → Int) (aG_2 : Nat → Int) (aP : Int) (k0 : Bool → β) : β :=
  w_toGrid z N aG_0 aG_1 aG_2 (fun q7 q8 => s_CountColourings z N aG_0 q7 q8 aP (fun q9 q10 => w_toGrid z N aG_0 aG_1 aG_2 (fun q11 q12 => i_CountColourings z N aG_0 q11 q12 aP (fun q13 q14 => cond (q13 != q9) (k0 false) (cond (q14 != q10) (k0 false) (k0 true))))))
end Go.AM

set_option maxRecDepth 100000
namespace Go.AM
/-- spec.ColouringBasis, loop -/
def s_ColouringBasis_l1_s {β : Type} (z : β) (t1 : Int) (t7_n : Nat) (t7_l : Nat) (t7_c : Nat) (t9_n : Nat) (t9_l : Nat) (t9_c : Nat) (t10 : Int) (h0_0 : Int) (h0_1 : Nat → Int) (h0_2 : Nat → Int) (h1 : List (Nat × Nat)) (h2 : List (List Int)) (h3 : List (List Int)) (h4 : List (Nat × Nat)) (h5 : Nat → Bool) (h6 : List Int) (t11 : Int) (kn : Int → β) (k0 : Int → β) : β :=
  cond (t7_n.beq h4.length && (decide (0 ≤ t10) && decide (t10 < (↑t7_l : Int)))) (cond (t7_n.beq h4.length && t10.toNat.blt h4.length) (cond ((h4[t10.toNat]?.getD (0, 0)).snd.beq (h3[(h4[t10.toNat]?.getD (0, 0)).fst]?.getD []).length && (decide (0 ≤ t11) && decide (t11 < (↑(h4[t10.toNat]?.getD (0, 0)).snd : Int)))) (cond ((h4[t10.toNat]?.getD (0, 0)).snd.beq (h3[(h4[t10.toNat]?.getD (0, 0)).fst]?.getD []).length && t11.toNat.blt (h3[(h4[t10.toNat]?.getD (0, 0)).fst]?.getD []).length) (cond ((h3[(h4[t10.toNat]?.getD (0, 0)).fst]?.getD [])[t11.toNat]?.getD 0 == 0) (cond (fits IntKind.i64 (t11 + 1)) (kn (t11 + 1)) (z)) (k0 t11)) (z)) (z)) (z)) (z)
def s_ColouringBasis_l1 {β : Type} (z : β) (t1 : Int) (t7_n : Nat) (t7_l : Nat) (t7_c : Nat) (t9_n : Nat) (t9_l : Nat) (t9_c : Nat) (t10 : Int) (h0_0 : Int) (h0_1 : Nat → Int) (h0_2 : Nat → Int) (h1 : List (Nat × Nat)) (h2 : List (List Int)) (h3 : List (List Int)) (h4 : List (Nat × Nat)) (h5 : Nat → Bool) (h6 : List Int) : Nat → Int → (Int → β) → β
  | 0, _, _ => z
  | m + 1, t11, k0 => s_ColouringBasis_l1_s z t1 t7_n t7_l t7_c t9_n t9_l t9_c t10 h0_0 h0_1 h0_2 h1 h2 h3 h4 h5 h6 t11 (fun t11 => s_ColouringBasis_l1 z t1 t7_n t7_l t7_c t9_n t9_l t9_c t10 h0_0 h0_1 h0_2 h1 h2 h3 h4 h5 h6 m t11 k0) k0

/-- spec.ColouringBasis, loop -/
def s_ColouringBasis_l0_s {β : Type} (z : β) (N : Nat) (t1 : Int) (t7_n : Nat) (t7_l : Nat) (t7_c : Nat) (h0_0 : Int) (h0_1 : Nat → Int) (h0_2 : Nat → Int) (h1 : List (Nat × Nat)) (h2 : List (List Int)) (h3 : List (List Int)) (h4 : List (Nat × Nat)) (t9_n : Nat) (t9_l : Nat) (t9_c : Nat) (t10 : Int) (h5 : Nat → Bool) (h6 : List Int) (kn : Nat → Nat → Nat → Int → (Nat → Bool) → (List Int) → β) (k0 : Nat → Nat → Nat → (Nat → Bool) → (List Int) → β) : β :=
  cond (t7_l.ble 9223372036854775807) (cond (decide (t10 < (↑t7_l : Int))) (s_ColouringBasis_l1 z t1 t7_n t7_l t7_c t9_n t9_l t9_c t10 h0_0 h0_1 h0_2 h1 h2 h3 h4 h5 h6 N 0 (fun q21 => cond (decide (0 ≤ q21) && decide (q21 < (↑8 : Int))) (cond (q21.toNat.blt 8) (cond (t9_n.beq h6.length && true) (cond ((t9_l + 1).ble 1099511627776 && ((t9_l + 1) * 8).ble 1099511627776) (cond ((t9_l + 1).ble t9_c) (cond (t9_n.beq h6.length && (0 + t9_l + 1).ble h6.length) (cond (fits IntKind.i64 (t10 + 1)) (kn t9_n (t9_l + 1) t9_c (t10 + 1) (upd h5 q21.toNat true) (List.take (0 + t9_l) h6 ++ (fromTo ((List.replicate 1 0).set 0 q21) 0 1 ++ List.drop (0 + t9_l + 1) h6))) (z)) (z)) (cond (t9_l.beq h6.length) (cond (fits IntKind.i64 (t10 + 1)) (kn ((h6 ++ fromTo ((List.replicate 1 0).set 0 q21) 0 1).length) (t9_l + 1) (t9_l + 1) (t10 + 1) (upd h5 q21.toNat true) (h6 ++ fromTo ((List.replicate 1 0).set 0 q21) 0 1)) (z)) (z))) (z)) (z)) (z)) (z))) (k0 t9_n t9_l t9_c h5 h6)) (z)
def s_ColouringBasis_l0 {β : Type} (z : β) (N : Nat) (t1 : Int) (t7_n : Nat) (t7_l : Nat) (t7_c : Nat) (h0_0 : Int) (h0_1 : Nat → Int) (h0_2 : Nat → Int) (h1 : List (Nat × Nat)) (h2 : List (List Int)) (h3 : List (List Int)) (h4 : List (Nat × Nat)) : Nat → Nat → Nat → Nat → Int → (Nat → Bool) → (List Int) → (Nat → Nat → Nat → (Nat → Bool) → (List Int) → β) → β
  | 0, _, _, _, _, _, _, _ => z
  | m + 1, t9_n, t9_l, t9_c, t10, h5, h6, k0 => s_ColouringBasis_l0_s z N t1 t7_n t7_l t7_c h0_0 h0_1 h0_2 h1 h2 h3 h4 t9_n t9_l t9_c t10 h5 h6 (fun t9_n t9_l t9_c t10 h5 h6 => s_ColouringBasis_l0 z N t1 t7_n t7_l t7_c h0_0 h0_1 h0_2 h1 h2 h3 h4 m t9_n t9_l t9_c t10 h5 h6 k0) k0

/-- spec.ColouringBasis, loop -/
def s_ColouringBasis_l3_s {β : Type} (z : β) (t1 : Int) (t7_n : Nat) (t7_l : Nat) (t7_c : Nat) (t9_n : Nat) (t9_l : Nat) (t9_c : Nat) (t12_n : Nat) (t12_l : Nat) (t12_c : Nat) (t13 : Int) (t14_n : Nat) (t14_l : Nat) (t14_c : Nat) (h0_0 : Int) (h0_1 : Nat → Int) (h0_2 : Nat → Int) (h1 : List (Nat × Nat)) (h2 : List (List Int)) (h3 : List (List Int)) (h4 : List (Nat × Nat)) (h5 : Nat → Bool) (h6 : List Int) (h7 : List (List Int)) (h8 : List (Nat × Nat)) (h9_n : Nat) (t15 : Int) (h9 : Nat → Int) (kn : Int → (Nat → Int) → β) (k0 : (Nat → Int) → β) : β :=
  cond (t7_l.ble 9223372036854775807) (cond (decide (t15 < (↑t7_l : Int))) (cond (t9_n.beq h6.length && (decide (0 ≤ t15) && decide (t15 < (↑t9_l : Int)))) (cond (t9_n.beq h6.length && t15.toNat.blt h6.length) (cond (t7_n.beq h4.length && (decide (0 ≤ t15) && decide (t15 < (↑t7_l : Int)))) (cond (t7_n.beq h4.length && t15.toNat.blt h4.length) (cond ((h4[t15.toNat]?.getD (0, 0)).snd.beq (h3[(h4[t15.toNat]?.getD (0, 0)).fst]?.getD []).length && (decide (0 ≤ t13) && decide (t13 < (↑(h4[t15.toNat]?.getD (0, 0)).snd : Int)))) (cond ((h4[t15.toNat]?.getD (0, 0)).snd.beq (h3[(h4[t15.toNat]?.getD (0, 0)).fst]?.getD []).length && t13.toNat.blt (h3[(h4[t15.toNat]?.getD (0, 0)).fst]?.getD []).length) (cond (fits IntKind.i64 (t1 - (h3[(h4[t15.toNat]?.getD (0, 0)).fst]?.getD [])[t13.toNat]?.getD 0)) (cond (!t1 == 0) (cond (t14_n.beq h9_n && (decide (0 ≤ h6[t15.toNat]?.getD 0) && decide (h6[t15.toNat]?.getD 0 < (↑t14_l : Int)))) (cond (t14_n.beq h9_n && (h6[t15.toNat]?.getD 0).toNat.blt h9_n) (cond (fits IntKind.i64 (t15 + 1)) (kn (t15 + 1) (upd h9 (h6[t15.toNat]?.getD 0).toNat ((t1 - (h3[(h4[t15.toNat]?.getD (0, 0)).fst]?.getD [])[t13.toNat]?.getD 0).tmod t1))) (z)) (z)) (z)) (z)) (z)) (z)) (z)) (z)) (z)) (z)) (z)) (k0 h9)) (z)
def s_ColouringBasis_l3 {β : Type} (z : β) (t1 : Int) (t7_n : Nat) (t7_l : Nat) (t7_c : Nat) (t9_n : Nat) (t9_l : Nat) (t9_c : Nat) (t12_n : Nat) (t12_l : Nat) (t12_c : Nat) (t13 : Int) (t14_n : Nat) (t14_l : Nat) (t14_c : Nat) (h0_0 : Int) (h0_1 : Nat → Int) (h0_2 : Nat → Int) (h1 : List (Nat × Nat)) (h2 : List (List Int)) (h3 : List (List Int)) (h4 : List (Nat × Nat)) (h5 : Nat → Bool) (h6 : List Int) (h7 : List (List Int)) (h8 : List (Nat × Nat)) (h9_n : Nat) : Nat → Int → (Nat → Int) → ((Nat → Int) → β) → β
  | 0, _, _, _ => z
  | m + 1, t15, h9, k0 => s_ColouringBasis_l3_s z t1 t7_n t7_l t7_c t9_n t9_l t9_c t12_n t12_l t12_c t13 t14_n t14_l t14_c h0_0 h0_1 h0_2 h1 h2 h3 h4 h5 h6 h7 h8 h9_n t15 h9 (fun t15 h9 => s_ColouringBasis_l3 z t1 t7_n t7_l t7_c t9_n t9_l t9_c t12_n t12_l t12_c t13 t14_n t14_l t14_c h0_0 h0_1 h0_2 h1 h2 h3 h4 h5 h6 h7 h8 h9_n m t15 h9 k0) k0

/-- spec.ColouringBasis, loop -/
def s_ColouringBasis_l2_s {β : Type} (z : β) (N : Nat) (t1 : Int) (t7_n : Nat) (t7_l : Nat) (t7_c : Nat) (t9_n : Nat) (t9_l : Nat) (t9_c : Nat) (h0_0 : Int) (h0_1 : Nat → Int) (h0_2 : Nat → Int) (h1 : List (Nat × Nat)) (h2 : List (List Int)) (h3 : List (List Int)) (h4 : List (Nat × Nat)) (h5 : Nat → Bool) (h6 : List Int) (t12_n : Nat) (t12_l : Nat) (t12_c : Nat) (t13 : Int) (h7 : List (List Int)) (h8 : List (Nat × Nat)) (kn : Nat → Nat → Nat → Int → (List (List Int)) → (List (Nat × Nat)) → β) (k0 : Nat → Nat → Nat → (List (List Int)) → (List (Nat × Nat)) → β) : β :=
  cond (decide (t13 < h0_0)) (cond (decide (0 ≤ t13) && decide (t13 < (↑8 : Int))) (cond (t13.toNat.blt 8) (cond (h5 t13.toNat) (cond (fits IntKind.i64 (t13 + 1)) (kn t12_n t12_l t12_c (t13 + 1) h7 h8) (z)) (cond (decide (0 ≤ h0_0) && decide (h0_0 ≤ h0_0) && decide (h0_0 ≤ 1073741824) && true && true) (cond (h0_0.toNat.beq h0_0.toNat && (decide (0 ≤ t13) && decide (t13 < (↑h0_0.toNat : Int)))) (cond (h0_0.toNat.beq h0_0.toNat && t13.toNat.blt h0_0.toNat) (s_ColouringBasis_l3 z t1 t7_n t7_l t7_c t9_n t9_l t9_c t12_n t12_l t12_c t13 h0_0.toNat h0_0.toNat h0_0.toNat h0_0 h0_1 h0_2 h1 h2 h3 h4 h5 h6 h7 h8 h0_0.toNat N 0 (upd (fun (x : Nat) => 0) t13.toNat 1) (fun q26 => cond (h0_0.toNat.beq (List.map q26 (List.range h0_0.toNat)).length && (h0_0.toNat.beq h0_0.toNat && (h0_0.toNat.beq h0_0.toNat && true))) (cond (t12_n.beq h8.length && true) (cond ((t12_l + 1).ble 1099511627776 && ((t12_l + 1) * 24).ble 1099511627776) (cond ((t12_l + 1).ble t12_c) (cond (t12_n.beq h8.length && (0 + t12_l + 1).ble h8.length) (cond (fits IntKind.i64 (t13 + 1)) (kn t12_n (t12_l + 1) t12_c (t13 + 1) (h7 ++ [List.map q26 (List.range h0_0.toNat)]) (List.take (0 + t12_l) h8 ++ ([(h7.length, h0_0.toNat)] ++ List.drop (0 + t12_l + 1) h8))) (z)) (z)) (cond (t12_l.beq h8.length) (cond (fits IntKind.i64 (t13 + 1)) (kn ((h8 ++ [(h7.length, h0_0.toNat)]).length) (t12_l + 1) (t12_l + 1) (t13 + 1) (h7 ++ [List.map q26 (List.range h0_0.toNat)]) (h8 ++ [(h7.length, h0_0.toNat)])) (z)) (z))) (z)) (z)) (z))) (z)) (z)) (z))) (z)) (z)) (k0 t12_n t12_l t12_c h7 h8)
def s_ColouringBasis_l2 {β : Type} (z : β) (N : Nat) (t1 : Int) (t7_n : Nat) (t7_l : Nat) (t7_c : Nat) (t9_n : Nat) (t9_l : Nat) (t9_c : Nat) (h0_0 : Int) (h0_1 : Nat → Int) (h0_2 : Nat → Int) (h1 : List (Nat × Nat)) (h2 : List (List Int)) (h3 : List (List Int)) (h4 : List (Nat × Nat)) (h5 : Nat → Bool) (h6 : List Int) : Nat → Nat → Nat → Nat → Int → (List (List Int)) → (List (Nat × Nat)) → (Nat → Nat → Nat → (List (List Int)) → (List (Nat × Nat)) → β) → β
  | 0, _, _, _, _, _, _, _ => z
  | m + 1, t12_n, t12_l, t12_c, t13, h7, h8, k0 => s_ColouringBasis_l2_s z N t1 t7_n t7_l t7_c t9_n t9_l t9_c h0_0 h0_1 h0_2 h1 h2 h3 h4 h5 h6 t12_n t12_l t12_c t13 h7 h8 (fun t12_n t12_l t12_c t13 h7 h8 => s_ColouringBasis_l2 z N t1 t7_n t7_l t7_c t9_n t9_l t9_c h0_0 h0_1 h0_2 h1 h2 h3 h4 h5 h6 m t12_n t12_l t12_c t13 h7 h8 k0) k0

/-- spec.ColouringBasis -/
def s_ColouringBasis {β : Type} (z : β) (N : Nat) (g_0 : Int) (g_1 : Nat → Int) (g_2 : Nat → Int) (a1 : Int) (k0 : Int → β) (k1 : Nat → Nat → Nat → Int → (List (Nat × Nat)) → (List (List Int)) → β) : β :=
  s_l08Code z N g_0 g_1 g_2 a1 (fun q7 => cond (q7 != 0) (k0 q7) (s_l08Rows z N g_0 g_1 g_2 a1 (fun q8 q9 q10 q11 q12 => s_l08Reduce z N q8 q9 q10 a1 q11 q12 (fun q13 q14 q15 q16 q17 => s_ColouringBasis_l0 z N a1 q13 q14 q15 g_0 g_1 g_2 q11 q12 q16 q17 N 0 0 0 0 (fun (x : Nat) => false) (List.replicate 0 0) (fun q18 q19 q20 q21 q22 => s_ColouringBasis_l2 z N a1 q13 q14 q15 q18 q19 q20 g_0 g_1 g_2 q11 q12 q16 q17 q21 q22 N 0 0 0 0 (List.replicate 0 []) (List.map (fun (i : Nat) => (i, 0)) (List.range 0)) (fun q23 q24 q25 q26 q27 => s_l08Reduce z N q23 q24 q25 a1 q27 q26 (fun q28 q29 q30 q31 q32 => k1 q28 q29 q30 0 q32 q31)))))))

/-- slices.Index[[]int,int], loop -/
def slices_Index_int_int_l0_s {β : Type} (z : β) (s_n : Nat) (s_l : Nat) (s_c : Nat) (v : Int) (t7 : Int) (h0 : List Int) (t8 : Int) (kn : Int → β) (k0 : Int → β) (k1 : β) : β :=
  cond (decide (t8 < t7)) (cond (s_n.beq h0.length && (decide (0 ≤ t8) && decide (t8 < (↑s_l : Int)))) (cond (s_n.beq h0.length && t8.toNat.blt h0.length) (cond (v == h0[t8.toNat]?.getD 0) (k0 t8) (cond (fits IntKind.i64 (t8 + 1)) (kn (t8 + 1)) (z))) (z)) (z)) (k1)
def slices_Index_int_int_l0 {β : Type} (z : β) (s_n : Nat) (s_l : Nat) (s_c : Nat) (v : Int) (t7 : Int) (h0 : List Int) : Nat → Int → (Int → β) → β → β
  | 0, _, _, _ => z
  | m + 1, t8, k0, k1 => slices_Index_int_int_l0_s z s_n s_l s_c v t7 h0 t8 (fun t8 => slices_Index_int_int_l0 z s_n s_l s_c v t7 h0 m t8 k0 k1) k0 k1

/-- slices.Index[[]int,int] -/
def slices_Index_int_int {β : Type} (z : β) (N : Nat) (s_n : Nat) (s_l : Nat) (s_c : Nat) (v : Int) (h0 : List Int) (k0 : Int → β) : β :=
  cond (s_l.ble 9223372036854775807) (slices_Index_int_int_l0 z s_n s_l s_c v (↑s_l : Int) h0 N 0 (fun q8 => k0 q8) (k0 (-1))) (z)

/-- slices.Contains[[]int,int] -/
def slices_Contains_int_int {β : Type} (z : β) (N : Nat) (s_n : Nat) (s_l : Nat) (s_c : Nat) (v : Int) (h0 : List Int) (k0 : Bool → β) : β :=
  slices_Index_int_int z N s_n s_l s_c v h0 (fun q8 => k0 (decide (0 ≤ q8)))

/-- impl.ColouringBasis$1, loop -/
def i_ColouringBasis_1_l1_s {β : Type} (z : β) (t3_n : Nat) (t3_l : Nat) (t3_c : Nat) (t4_n : Nat) (t4_l : Nat) (t4_c : Nat) (t5_n : Nat) (t5_l : Nat) (t5_c : Nat) (t6 : Int) (t7_n : Nat) (t7_l : Nat) (t7_c : Nat) (t23 : Int) (t24 : Int) (t36_n : Nat) (t36_l : Nat) (t36_c : Nat) (t37 : Int) (h0_0 : Int) (h0_1 : Nat → Int) (h0_2 : Nat → Int) (h1 : Int) (h2 : List (Nat × Nat)) (h3 : List (List Int)) (h4 : List (List Int)) (h5 : List (Nat × Nat)) (h6 : List Int) (h7 : List (List Int)) (h8 : List (Nat × Nat)) (h9_n : Nat) (t38 : Int) (h9 : Nat → Int) (kn : Int → (Nat → Int) → β) (k0 : (Nat → Int) → β) : β :=
  cond (decide (t38 < t37)) (cond (t36_n.beq h6.length && (decide (0 ≤ t38) && decide (t38 < (↑t36_l : Int)))) (cond (t36_n.beq h6.length && t38.toNat.blt h6.length) (cond (t3_n.beq h5.length && (decide (0 ≤ t38) && decide (t38 < (↑t3_l : Int)))) (cond (t3_n.beq h5.length && t38.toNat.blt h5.length) (cond ((h5[t38.toNat]?.getD (0, 0)).snd.beq (h4[(h5[t38.toNat]?.getD (0, 0)).fst]?.getD []).length && (decide (0 ≤ t6) && decide (t6 < (↑(h5[t38.toNat]?.getD (0, 0)).snd : Int)))) (cond ((h5[t38.toNat]?.getD (0, 0)).snd.beq (h4[(h5[t38.toNat]?.getD (0, 0)).fst]?.getD []).length && t6.toNat.blt (h4[(h5[t38.toNat]?.getD (0, 0)).fst]?.getD []).length) (cond (fits IntKind.i64 (-(h4[(h5[t38.toNat]?.getD (0, 0)).fst]?.getD [])[t6.toNat]?.getD 0)) (cond (t7_n.beq h9_n && (decide (0 ≤ h6[t38.toNat]?.getD 0) && decide (h6[t38.toNat]?.getD 0 < (↑t7_l : Int)))) (cond (t7_n.beq h9_n && (h6[t38.toNat]?.getD 0).toNat.blt h9_n) (cond (fits IntKind.i64 (t38 + 1)) (kn (t38 + 1) (upd h9 (h6[t38.toNat]?.getD 0).toNat (-(h4[(h5[t38.toNat]?.getD (0, 0)).fst]?.getD [])[t6.toNat]?.getD 0))) (z)) (z)) (z)) (z)) (z)) (z)) (z)) (z)) (z)) (z)) (k0 h9)
def i_ColouringBasis_1_l1 {β : Type} (z : β) (t3_n : Nat) (t3_l : Nat) (t3_c : Nat) (t4_n : Nat) (t4_l : Nat) (t4_c : Nat) (t5_n : Nat) (t5_l : Nat) (t5_c : Nat) (t6 : Int) (t7_n : Nat) (t7_l : Nat) (t7_c : Nat) (t23 : Int) (t24 : Int) (t36_n : Nat) (t36_l : Nat) (t36_c : Nat) (t37 : Int) (h0_0 : Int) (h0_1 : Nat → Int) (h0_2 : Nat → Int) (h1 : Int) (h2 : List (Nat × Nat)) (h3 : List (List Int)) (h4 : List (List Int)) (h5 : List (Nat × Nat)) (h6 : List Int) (h7 : List (List Int)) (h8 : List (Nat × Nat)) (h9_n : Nat) : Nat → Int → (Nat → Int) → ((Nat → Int) → β) → β
  | 0, _, _, _ => z
  | m + 1, t38, h9, k0 => i_ColouringBasis_1_l1_s z t3_n t3_l t3_c t4_n t4_l t4_c t5_n t5_l t5_c t6 t7_n t7_l t7_c t23 t24 t36_n t36_l t36_c t37 h0_0 h0_1 h0_2 h1 h2 h3 h4 h5 h6 h7 h8 h9_n t38 h9 (fun t38 h9 => i_ColouringBasis_1_l1 z t3_n t3_l t3_c t4_n t4_l t4_c t5_n t5_l t5_c t6 t7_n t7_l t7_c t23 t24 t36_n t36_l t36_c t37 h0_0 h0_1 h0_2 h1 h2 h3 h4 h5 h6 h7 h8 h9_n m t38 h9 k0) k0

/-- impl.ColouringBasis$1, loop -/
def i_ColouringBasis_1_l0_s {β : Type} (z : β) (N : Nat) (t3_n : Nat) (t3_l : Nat) (t3_c : Nat) (t4_n : Nat) (t4_l : Nat) (t4_c : Nat) (t23 : Int) (h0_0 : Int) (h0_1 : Nat → Int) (h0_2 : Nat → Int) (h1 : Int) (h2 : List (Nat × Nat)) (h3 : List (List Int)) (h4 : List (List Int)) (h5 : List (Nat × Nat)) (h6 : List Int) (t5_n : Nat) (t5_l : Nat) (t5_c : Nat) (t24 : Int) (h7 : List (List Int)) (h8 : List (Nat × Nat)) (kn : Nat → Nat → Nat → Int → (List (List Int)) → (List (Nat × Nat)) → β) (k0 : Nat → Nat → Nat → (List (List Int)) → (List (Nat × Nat)) → β) : β :=
  cond (decide (t24 < t23)) (slices_Contains_int_int z N t4_n t4_l t4_c t24 h6 (fun q26 => cond (q26) (cond (fits IntKind.i64 (t24 + 1)) (kn t5_n t5_l t5_c (t24 + 1) h7 h8) (z)) (i_Grid_n z N h0_0 h0_1 h0_2 (cond (decide (0 ≤ h0_0) && decide (h0_0 ≤ h0_0) && decide (h0_0 ≤ 1073741824) && true && true) (cond (h0_0.toNat.beq h0_0.toNat && (decide (0 ≤ t24) && decide (t24 < (↑h0_0.toNat : Int)))) (cond (h0_0.toNat.beq h0_0.toNat && t24.toNat.blt h0_0.toNat) (cond (t4_l.ble 9223372036854775807) (i_ColouringBasis_1_l1 z t3_n t3_l t3_c t4_n t4_l t4_c t5_n t5_l t5_c t24 h0_0.toNat h0_0.toNat h0_0.toNat t23 t24 t4_n t4_l t4_c (↑t4_l : Int) h0_0 h0_1 h0_2 h1 h2 h3 h4 h5 h6 h7 h8 h0_0.toNat N 0 (upd (fun (x : Nat) => 0) t24.toNat 1) (fun q27 => cond (h0_0.toNat.beq (List.map q27 (List.range h0_0.toNat)).length && (h0_0.toNat.beq h0_0.toNat && (h0_0.toNat.beq h0_0.toNat && true))) (cond (t5_n.beq h8.length && true) (cond ((t5_l + 1).ble 1099511627776 && ((t5_l + 1) * 24).ble 1099511627776) (cond ((t5_l + 1).ble t5_c) (cond (t5_n.beq h8.length && (0 + t5_l + 1).ble h8.length) (cond (fits IntKind.i64 (t24 + 1)) (kn t5_n (t5_l + 1) t5_c (t24 + 1) (h7 ++ [List.map q27 (List.range h0_0.toNat)]) (List.take (0 + t5_l) h8 ++ ([(h7.length, h0_0.toNat)] ++ List.drop (0 + t5_l + 1) h8))) (z)) (z)) (cond (t5_l.beq h8.length) (cond (fits IntKind.i64 (t24 + 1)) (kn ((h8 ++ [(h7.length, h0_0.toNat)]).length) (t5_l + 1) (t5_l + 1) (t24 + 1) (h7 ++ [List.map q27 (List.range h0_0.toNat)]) (h8 ++ [(h7.length, h0_0.toNat)])) (z)) (z))) (z)) (z)) (z))) (z)) (z)) (z)) (z))))) (k0 t5_n t5_l t5_c h7 h8)
def i_ColouringBasis_1_l0 {β : Type} (z : β) (N : Nat) (t3_n : Nat) (t3_l : Nat) (t3_c : Nat) (t4_n : Nat) (t4_l : Nat) (t4_c : Nat) (t23 : Int) (h0_0 : Int) (h0_1 : Nat → Int) (h0_2 : Nat → Int) (h1 : Int) (h2 : List (Nat × Nat)) (h3 : List (List Int)) (h4 : List (List Int)) (h5 : List (Nat × Nat)) (h6 : List Int) : Nat → Nat → Nat → Nat → Int → (List (List Int)) → (List (Nat × Nat)) → (Nat → Nat → Nat → (List (List Int)) → (List (Nat × Nat)) → β) → β
  | 0, _, _, _, _, _, _, _ => z
  | m + 1, t5_n, t5_l, t5_c, t24, h7, h8, k0 => i_ColouringBasis_1_l0_s z N t3_n t3_l t3_c t4_n t4_l t4_c t23 h0_0 h0_1 h0_2 h1 h2 h3 h4 h5 h6 t5_n t5_l t5_c t24 h7 h8 (fun t5_n t5_l t5_c t24 h7 h8 => i_ColouringBasis_1_l0 z N t3_n t3_l t3_c t4_n t4_l t4_c t23 h0_0 h0_1 h0_2 h1 h2 h3 h4 h5 h6 m t5_n t5_l t5_c t24 h7 h8 k0) k0

/-- slices.Clone[[][]int64,[]int64] -/
def slices_Clone_int64_int64 {β : Type} (z : β) (N : Nat) (s_n : Nat) (s_l : Nat) (s_c : Nat) (h0 : List (Nat × Nat)) (h1 : List (List Int)) (k0 : (List (List Int)) → (List (Nat × Nat)) → β) (k1 : Nat → Nat → Nat → (List (Nat × Nat)) → β) : β :=
  cond (Nat.blt 0 s_c) (cond (s_n.beq h0.length && (0 + s_l).ble h0.length) (cond (s_l.beq 0) (k0 (List.replicate 0 []) (List.map (fun (i : Nat) => (i, 0)) (List.range 0))) (cond ((0 + s_l).ble 1099511627776 && ((0 + s_l) * 24).ble 1099511627776) (cond ((0 + s_l).ble 0) (z) (k1 ((fromTo h0 0 s_l).length) (0 + s_l) (0 + s_l) (fromTo h0 0 s_l))) (z))) (z)) (z)

/-- impl.ColouringBasis$1 -/
def i_ColouringBasis_1 {β : Type} (z : β) (N : Nat) (h0_0 : Int) (h0_1 : Nat → Int) (h0_2 : Nat → Int) (h1 : Int) (k0 : (List (Nat × Nat)) → (List (List Int)) → β) (k1 : Nat → Nat → Nat → (List (Nat × Nat)) → (List (List Int)) → β) : β :=
  i_Grid_equations z N h0_0 h0_1 h0_2 (fun q7 q8 q9 q10 q11 => i_Grid_n z N h0_0 h0_1 h0_2 (i_echelon z N q7 q8 q9 h0_0 h1 q10 q11 (fun q12 q13 q14 q15 q16 q17 q18 q19 q20 => i_Grid_n z N h0_0 h0_1 h0_2 (i_ColouringBasis_1_l0 z N q12 q13 q14 q15 q16 q17 h0_0 h0_0 h0_1 h0_2 h1 q10 q11 q18 q19 q20 N 0 0 0 0 (List.replicate 0 []) (List.map (fun (i : Nat) => (i, 0)) (List.range 0)) (fun q21 q22 q23 q24 q25 => i_Grid_n z N h0_0 h0_1 h0_2 (i_echelon z N q21 q22 q23 h0_0 h1 q25 q24 (fun q26 q27 q28 q29 q30 q31 q32 q33 q34 => slices_Clone_int64_int64 z N q26 q27 q28 q33 q32 (fun q35 q36 => k0 q36 q35) (fun q35 q36 q37 q38 => k1 q35 q36 q37 q38 q32))))))))

/-- impl.coloured[[][]int64] -/
def i_coloured_int64_v1 {β : Type} (z : β) (N : Nat) (g_0 : Int) (g_1 : Nat → Int) (g_2 : Nat → Int) (p : Int) (h0_0 : Int) (h0_1 : Nat → Int) (h0_2 : Nat → Int) (h1 : Int) (k0 : Int → β) (k1 : Int → (List (Nat × Nat)) → (List (List Int)) → β) (k2 : Nat → Nat → Nat → Int → (List (Nat × Nat)) → (List (List Int)) → β) : β :=
  i_IsGrid z N g_0 g_1 g_2 (fun q11 => cond (!q11) (k0 1) (i_isPrime z N p (fun q12 => cond (!q12) (k0 2) (i_ColouringBasis_1 z N h0_0 h0_1 h0_2 h1 (fun q13 q14 => k1 0 q13 q14) (fun q13 q14 q15 q16 q17 => k2 q13 q14 q15 0 q16 q17)))))

/-- impl.ColouringBasis -/
def i_ColouringBasis {β : Type} (z : β) (N : Nat) (g_0 : Int) (g_1 : Nat → Int) (g_2 : Nat → Int) (p : Int) (k0 : Int → β) (k1 : Int → (List (Nat × Nat)) → (List (List Int)) → β) (k2 : Nat → Nat → Nat → Int → (List (Nat × Nat)) → (List (List Int)) → β) : β :=
  i_coloured_int64_v1 z N g_0 g_1 g_2 p g_0 g_1 g_2 p (fun q7 => k0 q7) (fun q7 q8 q9 => k1 q7 q8 q9) (fun q7 q8 q9 q10 q11 q12 => k2 q7 q8 q9 q10 q11 q12)

/-- laws.eqInt64SS, loop -/
def w_eqInt64SS_l0_s5_s {β : Type} (z : β) (a_n : Nat) (a_l : Nat) (a_c : Nat) (i : Int) (h0 : List (Nat × Nat)) (h1 : List (List Int))  (kn : β) (k0 : β) : β :=
  cond (a_l.ble 9223372036854775807) (cond (decide (i < (↑a_l : Int))) (cond (a_n.beq h0.length && (decide (0 ≤ i) && decide (i < (↑a_l : Int)))) (cond (a_n.beq h0.length && i.toNat.blt h0.length) (z) (z)) (z)) (k0)) (z)
def w_eqInt64SS_l0_s5 {β : Type} (z : β) (a_n : Nat) (a_l : Nat) (a_c : Nat) (i : Int) (h0 : List (Nat × Nat)) (h1 : List (List Int)) : Nat → β → β
  | 0, _ => z
  | m + 1, k0 => w_eqInt64SS_l0_s5_s z a_n a_l a_c i h0 h1 (w_eqInt64SS_l0_s5 z a_n a_l a_c i h0 h1 m k0) k0

/-- laws.eqInt64SS -/
def w_eqInt64SS_s5 {β : Type} (z : β) (N : Nat) (a_n : Nat) (a_l : Nat) (a_c : Nat) (h0 : List (Nat × Nat)) (h1 : List (List Int)) (k0 : Bool → β) : β :=
  cond (a_l.ble 9223372036854775807) (cond ((↑a_l : Int) != 0) (k0 false) (w_eqInt64SS_l0_s5 z a_n a_l a_c 0 h0 h1 N (k0 true))) (z)

/-- laws.markInt64SS, loop -/
def w_markInt64SS_l0_s3_s {β : Type} (z : β) (N : Nat) (a_n : Nat) (a_l : Nat) (a_c : Nat) (h0 : List (Nat × Nat)) (k : Int) (i : Int) (h1 : List (List Int)) (kn : Int → Int → (List (List Int)) → β) (k0 : Int → (List (List Int)) → β) : β :=
  cond (a_l.ble 9223372036854775807) (cond (decide (i < (↑a_l : Int))) (cond (a_n.beq h0.length && (decide (0 ≤ i) && decide (i < (↑a_l : Int)))) (cond (a_n.beq h0.length && i.toNat.blt h0.length) (w_markInt64S_s6 z N ((h0[i.toNat]?.getD (0, 0)).fst) 0 ((h0[i.toNat]?.getD (0, 0)).snd) ((h0[i.toNat]?.getD (0, 0)).snd) ((h0[i.toNat]?.getD (0, 0)).snd) k h1 (fun q11 q12 => cond (fits IntKind.i64 (i + 1)) (kn q11 (i + 1) q12) (z))) (z)) (z)) (k0 k h1)) (z)
def w_markInt64SS_l0_s3 {β : Type} (z : β) (N : Nat) (a_n : Nat) (a_l : Nat) (a_c : Nat) (h0 : List (Nat × Nat)) : Nat → Int → Int → (List (List Int)) → (Int → (List (List Int)) → β) → β
  | 0, _, _, _, _ => z
  | m + 1, k, i, h1, k0 => w_markInt64SS_l0_s3_s z N a_n a_l a_c h0 k i h1 (fun k i h1 => w_markInt64SS_l0_s3 z N a_n a_l a_c h0 m k i h1 k0) k0

/-- laws.markInt64SS -/
def w_markInt64SS_s3 {β : Type} (z : β) (N : Nat) (a_n : Nat) (a_l : Nat) (a_c : Nat) (k : Int) (h0 : List (Nat × Nat)) (h1 : List (List Int)) (k0 : Int → (List (List Int)) → β) : β :=
  w_markInt64SS_l0_s3 z N a_n a_l a_c h0 N k 0 h1 (fun q9 q10 => k0 q9 q10)

/-- laws.heldInt64SS, loop -/
def w_heldInt64SS_l0_s3_s {β : Type} (z : β) (N : Nat) (a_n : Nat) (a_l : Nat) (a_c : Nat) (h0 : List (Nat × Nat)) (h1 : List (List Int)) (k : Int) (i : Int) (kn : Int → Int → β) (k0 : β) (k1 : Int → β) : β :=
  cond (a_l.ble 9223372036854775807) (cond (decide (i < (↑a_l : Int))) (cond (a_n.beq h0.length && (decide (0 ≤ i) && decide (i < (↑a_l : Int)))) (cond (a_n.beq h0.length && i.toNat.blt h0.length) (w_heldInt64S_s6 z N ((h0[i.toNat]?.getD (0, 0)).fst) 0 ((h0[i.toNat]?.getD (0, 0)).snd) ((h0[i.toNat]?.getD (0, 0)).snd) ((h0[i.toNat]?.getD (0, 0)).snd) k h1 (fun q11 => cond (decide (q11 < 0)) (k0) (cond (fits IntKind.i64 (i + 1)) (kn q11 (i + 1)) (z)))) (z)) (z)) (k1 k)) (z)
def w_heldInt64SS_l0_s3 {β : Type} (z : β) (N : Nat) (a_n : Nat) (a_l : Nat) (a_c : Nat) (h0 : List (Nat × Nat)) (h1 : List (List Int)) : Nat → Int → Int → β → (Int → β) → β
  | 0, _, _, _, _ => z
  | m + 1, k, i, k0, k1 => w_heldInt64SS_l0_s3_s z N a_n a_l a_c h0 h1 k i (fun k i => w_heldInt64SS_l0_s3 z N a_n a_l a_c h0 h1 m k i k0 k1) k0 k1

/-- laws.heldInt64SS -/
def w_heldInt64SS_s3 {β : Type} (z : β) (N : Nat) (a_n : Nat) (a_l : Nat) (a_c : Nat) (k : Int) (h0 : List (Nat × Nat)) (h1 : List (List Int)) (k0 : Int → β) : β :=
  w_heldInt64SS_l0_s3 z N a_n a_l a_c h0 h1 N k 0 (k0 (-1)) (fun q9 => k0 q9)

/-- laws.eqInt64SS, loop -/
def w_eqInt64SS_l0_s6_s {β : Type} (z : β) (N : Nat) (a_n : Nat) (a_l : Nat) (a_c : Nat) (b_n : Nat) (b_l : Nat) (b_c : Nat) (h0 : List (Nat × Nat)) (h1 : List (Nat × Nat)) (h2 : List (List Int)) (h3 : List (List Int)) (i : Int) (kn : Int → β) (k0 : β) (k1 : β) : β :=
  cond (a_l.ble 9223372036854775807) (cond (decide (i < (↑a_l : Int))) (cond (a_n.beq h0.length && (decide (0 ≤ i) && decide (i < (↑a_l : Int)))) (cond (a_n.beq h0.length && i.toNat.blt h0.length) (cond (b_n.beq h1.length && (decide (0 ≤ i) && decide (i < (↑b_l : Int)))) (cond (b_n.beq h1.length && i.toNat.blt h1.length) (w_eqInt64S_s14 z N ((h0[i.toNat]?.getD (0, 0)).fst) 0 ((h0[i.toNat]?.getD (0, 0)).snd) ((h0[i.toNat]?.getD (0, 0)).snd) ((h0[i.toNat]?.getD (0, 0)).snd) ((h1[i.toNat]?.getD (0, 0)).fst) 0 ((h1[i.toNat]?.getD (0, 0)).snd) ((h1[i.toNat]?.getD (0, 0)).snd) ((h1[i.toNat]?.getD (0, 0)).snd) h2 h3 (fun q15 => cond (!q15) (k0) (cond (fits IntKind.i64 (i + 1)) (kn (i + 1)) (z)))) (z)) (z)) (z)) (z)) (k1)) (z)
def w_eqInt64SS_l0_s6 {β : Type} (z : β) (N : Nat) (a_n : Nat) (a_l : Nat) (a_c : Nat) (b_n : Nat) (b_l : Nat) (b_c : Nat) (h0 : List (Nat × Nat)) (h1 : List (Nat × Nat)) (h2 : List (List Int)) (h3 : List (List Int)) : Nat → Int → β → β → β
  | 0, _, _, _ => z
  | m + 1, i, k0, k1 => w_eqInt64SS_l0_s6_s z N a_n a_l a_c b_n b_l b_c h0 h1 h2 h3 i (fun i => w_eqInt64SS_l0_s6 z N a_n a_l a_c b_n b_l b_c h0 h1 h2 h3 m i k0 k1) k0 k1

/-- laws.eqInt64SS -/
def w_eqInt64SS_s6 {β : Type} (z : β) (N : Nat) (a_n : Nat) (a_l : Nat) (a_c : Nat) (b_n : Nat) (b_l : Nat) (b_c : Nat) (h0 : List (Nat × Nat)) (h1 : List (Nat × Nat)) (h2 : List (List Int)) (h3 : List (List Int)) (k0 : Bool → β) : β :=
  cond (a_l.ble 9223372036854775807) (cond (b_l.ble 9223372036854775807) (cond ((↑a_l : Int) != (↑b_l : Int)) (k0 false) (w_eqInt64SS_l0_s6 z N a_n a_l a_c b_n b_l b_c h0 h1 h2 h3 N 0 (k0 false) (k0 true))) (z)) (z)

/-- laws.FnExactColouringBasis -/
def w_FnExactColouringBasis {β : Type} (z : β) (N : Nat) (aG_0 : Int) (aG_1 : Nat → Int) (aG_2 : Nat → Int) (a1 : Int) (k0 : Bool → β) : β :=
  w_toGrid z N aG_0 aG_1 aG_2 (fun q7 q8 => s_ColouringBasis z N aG_0 q7 q8 a1 (fun q9 => w_toGrid z N aG_0 aG_1 aG_2 (fun q10 q11 => i_ColouringBasis z N aG_0 q10 q11 a1 (fun q12 => w_eqInt64SS z N (fun q13 => cond (!q13) (k0 false) (cond (q12 != q9) (k0 false) (w_markInt64SS z N 1 (w_heldInt64SS z N 1 (w_toGrid z N aG_0 aG_1 aG_2 (fun q14 q15 => i_ColouringBasis z N aG_0 q14 q15 a1 (fun q16 => w_eqInt64SS z N (fun q17 => cond (!q17) (k0 false) (cond (q16 != q9) (k0 false) (w_heldInt64SS z N 1 (k0 true))))) (fun q16 q17 q18 => w_eqInt64SS_s5 z N 0 0 0 q17 q18 (fun q19 => cond (!q19) (k0 false) (cond (q16 != q9) (k0 false) (w_heldInt64SS z N 1 (k0 true))))) (fun q16 q17 q18 q19 q20 q21 => w_eqInt64SS_s2 z N q16 q17 q18 q20 q21 (fun q22 => cond (!q22) (k0 false) (cond (q19 != q9) (k0 false) (w_heldInt64SS z N 1 (k0 true)))))))))))) (fun q12 q13 q14 => w_eqInt64SS_s5 z N 0 0 0 q13 q14 (fun q15 => cond (!q15) (k0 false) (cond (q12 != q9) (k0 false) (w_markInt64SS_s3 z N 0 0 0 1 q13 q14 (fun q16 q17 => w_heldInt64SS_s3 z N 0 0 0 1 q13 q17 (fun q18 => cond (decide (q18 < 0)) (k0 false) (cond (q18 != q16) (k0 false) (w_toGrid z N aG_0 aG_1 aG_2 (fun q19 q20 => i_ColouringBasis z N aG_0 q19 q20 a1 (fun q21 => w_eqInt64SS z N (fun q22 => cond (!q22) (k0 false) (cond (q21 != q9) (k0 false) (w_heldInt64SS_s3 z N 0 0 0 1 q13 q17 (fun q23 => cond (decide (q23 < 0)) (k0 false) (cond (q23 != q16) (k0 false) (k0 true))))))) (fun q21 q22 q23 => w_eqInt64SS_s5 z N 0 0 0 q22 q23 (fun q24 => cond (!q24) (k0 false) (cond (q21 != q9) (k0 false) (w_heldInt64SS_s3 z N 0 0 0 1 q13 q17 (fun q25 => cond (decide (q25 < 0)) (k0 false) (cond (q25 != q16) (k0 false) (k0 true))))))) (fun q21 q22 q23 q24 q25 q26 => w_eqInt64SS_s2 z N q21 q22 q23 q25 q26 (fun q27 => cond (!q27) (k0 false) (cond (q24 != q9) (k0 false) (w_heldInt64SS_s3 z N 0 0 0 1 q13 q17 (fun q28 => cond (decide (q28 < 0)) (k0 false) (cond (q28 != q16) (k0 false) (k0 true)))))))))))))))) (fun q12 q13 q14 q15 q16 q17 => w_eqInt64SS_s2 z N q12 q13 q14 q16 q17 (fun q18 => cond (!q18) (k0 false) (cond (q15 != q9) (k0 false) (w_markInt64SS_s2 z N q12 q13 q14 1 q16 q17 (fun q19 q20 => w_heldInt64SS_s2 z N q12 q13 q14 1 q16 q20 (fun q21 => cond (decide (q21 < 0)) (k0 false) (cond (q21 != q19) (k0 false) (w_toGrid z N aG_0 aG_1 aG_2 (fun q22 q23 => i_ColouringBasis z N aG_0 q22 q23 a1 (fun q24 => w_eqInt64SS z N (fun q25 => cond (!q25) (k0 false) (cond (q24 != q9) (k0 false) (w_heldInt64SS_s2 z N q12 q13 q14 1 q16 q20 (fun q26 => cond (decide (q26 < 0)) (k0 false) (cond (q26 != q19) (k0 false) (k0 true))))))) (fun q24 q25 q26 => w_eqInt64SS_s5 z N 0 0 0 q25 q26 (fun q27 => cond (!q27) (k0 false) (cond (q24 != q9) (k0 false) (w_heldInt64SS_s2 z N q12 q13 q14 1 q16 q20 (fun q28 => cond (decide (q28 < 0)) (k0 false) (cond (q28 != q19) (k0 false) (k0 true))))))) (fun q24 q25 q26 q27 q28 q29 => w_eqInt64SS_s2 z N q24 q25 q26 q28 q29 (fun q30 => cond (!q30) (k0 false) (cond (q27 != q9) (k0 false) (w_heldInt64SS_s2 z N q12 q13 q14 1 q16 q20 (fun q31 => cond (decide (q31 < 0)) (k0 false) (cond (q31 != q19) (k0 false) (k0 true)))))))))))))))))) (fun q9 q10 q11 q12 q13 q14 => w_toGrid z N aG_0 aG_1 aG_2 (fun q15 q16 => i_ColouringBasis z N aG_0 q15 q16 a1 (fun q17 => w_eqInt64SS_s3 z N q9 q10 q11 q13 q14 (fun q18 => cond (!q18) (k0 false) (cond (q17 != q12) (k0 false) (w_markInt64SS z N 1 (w_heldInt64SS z N 1 (w_toGrid z N aG_0 aG_1 aG_2 (fun q19 q20 => i_ColouringBasis z N aG_0 q19 q20 a1 (fun q21 => w_eqInt64SS_s3 z N q9 q10 q11 q13 q14 (fun q22 => cond (!q22) (k0 false) (cond (q21 != q12) (k0 false) (w_heldInt64SS z N 1 (k0 true))))) (fun q21 q22 q23 => w_eqInt64SS_s6 z N 0 0 0 q9 q10 q11 q22 q13 q23 q14 (fun q24 => cond (!q24) (k0 false) (cond (q21 != q12) (k0 false) (w_heldInt64SS z N 1 (k0 true))))) (fun q21 q22 q23 q24 q25 q26 => w_eqInt64SS_s4 z N q21 q22 q23 q9 q10 q11 q25 q13 q26 q14 (fun q27 => cond (!q27) (k0 false) (cond (q24 != q12) (k0 false) (w_heldInt64SS z N 1 (k0 true)))))))))))) (fun q17 q18 q19 => w_eqInt64SS_s6 z N 0 0 0 q9 q10 q11 q18 q13 q19 q14 (fun q20 => cond (!q20) (k0 false) (cond (q17 != q12) (k0 false) (w_markInt64SS_s3 z N 0 0 0 1 q18 q19 (fun q21 q22 => w_heldInt64SS_s3 z N 0 0 0 1 q18 q22 (fun q23 => cond (decide (q23 < 0)) (k0 false) (cond (q23 != q21) (k0 false) (w_toGrid z N aG_0 aG_1 aG_2 (fun q24 q25 => i_ColouringBasis z N aG_0 q24 q25 a1 (fun q26 => w_eqInt64SS_s3 z N q9 q10 q11 q13 q14 (fun q27 => cond (!q27) (k0 false) (cond (q26 != q12) (k0 false) (w_heldInt64SS_s3 z N 0 0 0 1 q18 q22 (fun q28 => cond (decide (q28 < 0)) (k0 false) (cond (q28 != q21) (k0 false) (k0 true))))))) (fun q26 q27 q28 => w_eqInt64SS_s6 z N 0 0 0 q9 q10 q11 q27 q13 q28 q14 (fun q29 => cond (!q29) (k0 false) (cond (q26 != q12) (k0 false) (w_heldInt64SS_s3 z N 0 0 0 1 q18 q22 (fun q30 => cond (decide (q30 < 0)) (k0 false) (cond (q30 != q21) (k0 false) (k0 true))))))) (fun q26 q27 q28 q29 q30 q31 => w_eqInt64SS_s4 z N q26 q27 q28 q9 q10 q11 q30 q13 q31 q14 (fun q32 => cond (!q32) (k0 false) (cond (q29 != q12) (k0 false) (w_heldInt64SS_s3 z N 0 0 0 1 q18 q22 (fun q33 => cond (decide (q33 < 0)) (k0 false) (cond (q33 != q21) (k0 false) (k0 true)))))))))))))))) (fun q17 q18 q19 q20 q21 q22 => w_eqInt64SS_s4 z N q17 q18 q19 q9 q10 q11 q21 q13 q22 q14 (fun q23 => cond (!q23) (k0 false) (cond (q20 != q12) (k0 false) (w_markInt64SS_s2 z N q17 q18 q19 1 q21 q22 (fun q24 q25 => w_heldInt64SS_s2 z N q17 q18 q19 1 q21 q25 (fun q26 => cond (decide (q26 < 0)) (k0 false) (cond (q26 != q24) (k0 false) (w_toGrid z N aG_0 aG_1 aG_2 (fun q27 q28 => i_ColouringBasis z N aG_0 q27 q28 a1 (fun q29 => w_eqInt64SS_s3 z N q9 q10 q11 q13 q14 (fun q30 => cond (!q30) (k0 false) (cond (q29 != q12) (k0 false) (w_heldInt64SS_s2 z N q17 q18 q19 1 q21 q25 (fun q31 => cond (decide (q31 < 0)) (k0 false) (cond (q31 != q24) (k0 false) (k0 true))))))) (fun q29 q30 q31 => w_eqInt64SS_s6 z N 0 0 0 q9 q10 q11 q30 q13 q31 q14 (fun q32 => cond (!q32) (k0 false) (cond (q29 != q12) (k0 false) (w_heldInt64SS_s2 z N q17 q18 q19 1 q21 q25 (fun q33 => cond (decide (q33 < 0)) (k0 false) (cond (q33 != q24) (k0 false) (k0 true))))))) (fun q29 q30 q31 q32 q33 q34 => w_eqInt64SS_s4 z N q29 q30 q31 q9 q10 q11 q33 q13 q34 q14 (fun q35 => cond (!q35) (k0 false) (cond (q32 != q12) (k0 false) (w_heldInt64SS_s2 z N q17 q18 q19 1 q21 q25 (fun q36 => cond (decide (q36 < 0)) (k0 false) (cond (q36 != q24) (k0 false) (k0 true)))))))))))))))))))
end Go.AM
