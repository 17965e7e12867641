/- A part of a proof about the given program: an abstract machine, what the given functions come to, and plain laws. -/
import Derived.Test.YtoginabccpjeoaaMachA
set_option linter.unusedVariables false
set_option linter.unusedSimpArgs false
set_option maxRecDepth 100000
namespace Go.AM
/-- laws.toByteA64, loop -/
def w_toByteA64_l0_s {β : Type} (z : β) (h0 : Nat → Int) (h1 : Nat → Int) (i : Int) (h2 : Nat → Int) (kn : Int → (Nat → Int) → β) (k0 : (Nat → Int) → β) : β :=
  cond (decide (i < 64)) (cond (decide (0 ≤ i) && decide (i < (↑64 : Int))) (cond (i.toNat.blt 64) (cond (decide (0 ≤ i) && decide (i < (↑64 : Int))) (cond (i.toNat.blt 64) (cond (fits IntKind.i64 (i + 1)) (kn (i + 1) (upd h2 i.toNat (h0 i.toNat))) (z)) (z)) (z)) (z)) (z)) (k0 h2)
def w_toByteA64_l0 {β : Type} (z : β) (h0 : Nat → Int) (h1 : Nat → Int) : Nat → Int → (Nat → Int) → ((Nat → Int) → β) → β
  | 0, _, _, _ => z
  | m + 1, i, h2, k0 => w_toByteA64_l0_s z h0 h1 i h2 (fun i h2 => w_toByteA64_l0 z h0 h1 m i h2 k0) k0

/-- laws.toByteA64 -/
def w_toByteA64 {β : Type} (z : β) (N : Nat) (a : Nat → Int) (k0 : (Nat → Int) → β) : β :=
  w_toByteA64_l0 z a (fun (x : Nat) => 0) N 0 (fun (x : Nat) => 0) (fun q4 => k0 q4)

/-- laws.toMosaic -/
def w_toMosaic {β : Type} (z : β) (N : Nat) (a_0 : Int) (a_1 : Nat → Int) (k0 : (Nat → Int) → β) : β :=
  w_toByteA64 z N a_1 (fun q5 => k0 q5)

/-- spec.l01In -/
def s_l01In {β : Type} (z : β) (N : Nat) (n : Int) (low : Int) (high : Int) (k0 : Bool → β) : β :=
  cond (decide (low ≤ n)) (k0 (decide (n ≤ high))) (k0 false)

/-- spec.l09Is, loop -/
def s_l09Is_l0_s {β : Type} (z : β) (h0_0 : Int) (h0_1 : Nat → Int) (k : Int) (kn : Int → β) (k0 : β) (k1 : β) : β :=
  cond (decide (k < 64)) (cond (decide (0 ≤ k) && decide (k < (↑64 : Int))) (cond (k.toNat.blt 64) (cond (decide (7 < h0_1 k.toNat)) (k0) (cond (fits IntKind.i64 (h0_0 * h0_0)) (cond (decide (h0_0 * h0_0 ≤ k)) (cond (decide (0 ≤ k) && decide (k < (↑64 : Int))) (cond (k.toNat.blt 64) (cond (h0_1 k.toNat != 0) (k0) (cond (fits IntKind.i64 (k + 1)) (kn (k + 1)) (z))) (z)) (z)) (cond (fits IntKind.i64 (k + 1)) (kn (k + 1)) (z))) (z))) (z)) (z)) (k1)
def s_l09Is_l0 {β : Type} (z : β) (h0_0 : Int) (h0_1 : Nat → Int) : Nat → Int → β → β → β
  | 0, _, _, _ => z
  | m + 1, k, k0, k1 => s_l09Is_l0_s z h0_0 h0_1 k (fun k => s_l09Is_l0 z h0_0 h0_1 m k k0 k1) k0 k1

/-- spec.l09Is -/
def s_l09Is {β : Type} (z : β) (N : Nat) (m_0 : Int) (m_1 : Nat → Int) (k0 : Bool → β) : β :=
  s_l01In z N m_0 2 8 (fun q5 => cond (!q5) (k0 false) (s_l09Is_l0 z m_0 m_1 N 0 (k0 false) (k0 true)))

/-- spec.IsMosaic -/
def s_IsMosaic {β : Type} (z : β) (N : Nat) (m_0 : Int) (m_1 : Nat → Int) (k0 : Bool → β) : β :=
  s_l09Is z N m_0 m_1 (fun q5 => k0 q5)

/-- impl.within -/
def i_within {β : Type} (z : β) (N : Nat) (x : Int) (low : Int) (high : Int) (k0 : Bool → β) : β :=
  cond (decide (low ≤ x)) (k0 (decide (x ≤ high))) (k0 false)

/-- impl.IsMosaic, loop -/
def i_IsMosaic_l0_s {β : Type} (z : β) (t10 : Nat → Int) (h0_0 : Int) (h0_1 : Nat → Int) (t11 : Int) (kn : Int → β) (k0 : β) (k1 : β) : β :=
  cond (decide (t11 < 64)) (cond (decide (0 ≤ t11) && decide (t11 < (↑64 : Int))) (cond (t11.toNat.blt 64) (cond (decide (8 ≤ t10 t11.toNat)) (k0) (cond (fits IntKind.i64 (h0_0 * h0_0)) (cond (decide (h0_0 * h0_0 ≤ t11)) (cond (t10 t11.toNat != 0) (k0) (cond (fits IntKind.i64 (t11 + 1)) (kn (t11 + 1)) (z))) (cond (fits IntKind.i64 (t11 + 1)) (kn (t11 + 1)) (z))) (z))) (z)) (z)) (k1)
def i_IsMosaic_l0 {β : Type} (z : β) (t10 : Nat → Int) (h0_0 : Int) (h0_1 : Nat → Int) : Nat → Int → β → β → β
  | 0, _, _, _ => z
  | m + 1, t11, k0, k1 => i_IsMosaic_l0_s z t10 h0_0 h0_1 t11 (fun t11 => i_IsMosaic_l0 z t10 h0_0 h0_1 m t11 k0 k1) k0 k1

/-- impl.IsMosaic -/
def i_IsMosaic {β : Type} (z : β) (N : Nat) (m_0 : Int) (m_1 : Nat → Int) (k0 : Bool → β) : β :=
  i_within z N m_0 2 8 (fun q5 => cond (!q5) (k0 false) (i_IsMosaic_l0 z m_1 m_0 m_1 N 0 (k0 false) (k0 true)))

/-- laws.FnExactIsMosaic -/
def w_FnExactIsMosaic {β : Type} (z : β) (N : Nat) (aM_0 : Int) (aM_1 : Nat → Int) (k0 : Bool → β) : β :=
  w_toMosaic z N aM_0 aM_1 (fun q5 => s_IsMosaic z N aM_0 q5 (fun q6 => w_toMosaic z N aM_0 aM_1 (fun q7 => i_IsMosaic z N aM_0 q7 (fun q8 => cond (q8 != q6) (k0 false) (k0 true)))))
end Go.AM

set_option maxRecDepth 100000
namespace Go.AM
/-- laws.toByteA8, loop -/
def w_toByteA8_l0_s {β : Type} (z : β) (h0 : Nat → Int) (h1 : Nat → Int) (i : Int) (h2 : Nat → Int) (kn : Int → (Nat → Int) → β) (k0 : (Nat → Int) → β) : β :=
  cond (decide (i < 8)) (cond (decide (0 ≤ i) && decide (i < (↑8 : Int))) (cond (i.toNat.blt 8) (cond (decide (0 ≤ i) && decide (i < (↑8 : Int))) (cond (i.toNat.blt 8) (cond (fits IntKind.i64 (i + 1)) (kn (i + 1) (upd h2 i.toNat (h0 i.toNat))) (z)) (z)) (z)) (z)) (z)) (k0 h2)
def w_toByteA8_l0 {β : Type} (z : β) (h0 : Nat → Int) (h1 : Nat → Int) : Nat → Int → (Nat → Int) → ((Nat → Int) → β) → β
  | 0, _, _, _ => z
  | m + 1, i, h2, k0 => w_toByteA8_l0_s z h0 h1 i h2 (fun i h2 => w_toByteA8_l0 z h0 h1 m i h2 k0) k0

/-- laws.toByteA8 -/
def w_toByteA8 {β : Type} (z : β) (N : Nat) (a : Nat → Int) (k0 : (Nat → Int) → β) : β :=
  w_toByteA8_l0 z a (fun (x : Nat) => 0) N 0 (fun (x : Nat) => 0) (fun q4 => k0 q4)

/-- laws.toGrid -/
def w_toGrid {β : Type} (z : β) (N : Nat) (a_0 : Int) (a_1 : Nat → Int) (a_2 : Nat → Int) (k0 : (Nat → Int) → (Nat → Int) → β) : β :=
  w_toByteA8 z N a_1 (fun q6 => w_toByteA8 z N a_2 (fun q7 => k0 q6 q7))

/-- spec.l01Perm, loop -/
def s_l01Perm_l0_s {β : Type} (z : β) (n : Int) (h0 : Nat → Int) (i : Int) (h1 : Nat → Bool) (kn : Int → (Nat → Bool) → β) (k0 : (Nat → Bool) → β) (k1 : (Nat → Bool) → β) : β :=
  cond (decide (i < 8)) (cond (decide (n ≤ i)) (cond (decide (0 ≤ i) && decide (i < (↑8 : Int))) (cond (i.toNat.blt 8) (cond (h0 i.toNat != 0) (k0 h1) (cond (fits IntKind.i64 (i + 1)) (kn (i + 1) h1) (z))) (z)) (z)) (cond (decide (0 ≤ i) && decide (i < (↑8 : Int))) (cond (i.toNat.blt 8) (cond (decide (n ≤ h0 i.toNat)) (k0 h1) (cond (decide (0 ≤ i) && decide (i < (↑8 : Int))) (cond (i.toNat.blt 8) (cond (decide (0 ≤ h0 i.toNat) && decide (h0 i.toNat < (↑8 : Int))) (cond ((h0 i.toNat).toNat.blt 8) (cond (h1 (h0 i.toNat).toNat) (k0 h1) (cond (decide (0 ≤ i) && decide (i < (↑8 : Int))) (cond (i.toNat.blt 8) (cond (decide (0 ≤ h0 i.toNat) && decide (h0 i.toNat < (↑8 : Int))) (cond ((h0 i.toNat).toNat.blt 8) (cond (fits IntKind.i64 (i + 1)) (kn (i + 1) (upd h1 (h0 i.toNat).toNat true)) (z)) (z)) (z)) (z)) (z))) (z)) (z)) (z)) (z))) (z)) (z))) (k1 h1)
def s_l01Perm_l0 {β : Type} (z : β) (n : Int) (h0 : Nat → Int) : Nat → Int → (Nat → Bool) → ((Nat → Bool) → β) → ((Nat → Bool) → β) → β
  | 0, _, _, _, _ => z
  | m + 1, i, h1, k0, k1 => s_l01Perm_l0_s z n h0 i h1 (fun i h1 => s_l01Perm_l0 z n h0 m i h1 k0 k1) k0 k1

/-- spec.l01Perm -/
def s_l01Perm {β : Type} (z : β) (N : Nat) (list : Nat → Int) (n : Int) (k0 : Bool → β) : β :=
  s_l01Perm_l0 z n list N 0 (fun (x : Nat) => false) (fun q5 => k0 false) (fun q5 => k0 true)

/-- spec.l01Is, loop -/
def s_l01Is_l0_s {β : Type} (z : β) (h0_0 : Int) (h0_1 : Nat → Int) (h0_2 : Nat → Int) (i : Int) (kn : Int → β) (k0 : β) (k1 : β) : β :=
  cond (decide (i < h0_0)) (cond (decide (0 ≤ i) && decide (i < (↑8 : Int))) (cond (i.toNat.blt 8) (cond (decide (0 ≤ i) && decide (i < (↑8 : Int))) (cond (i.toNat.blt 8) (cond (h0_1 i.toNat == h0_2 i.toNat) (k0) (cond (fits IntKind.i64 (i + 1)) (kn (i + 1)) (z))) (z)) (z)) (z)) (z)) (k1)
def s_l01Is_l0 {β : Type} (z : β) (h0_0 : Int) (h0_1 : Nat → Int) (h0_2 : Nat → Int) : Nat → Int → β → β → β
  | 0, _, _, _ => z
  | m + 1, i, k0, k1 => s_l01Is_l0_s z h0_0 h0_1 h0_2 i (fun i => s_l01Is_l0 z h0_0 h0_1 h0_2 m i k0 k1) k0 k1

/-- spec.l01Is -/
def s_l01Is {β : Type} (z : β) (N : Nat) (g_0 : Int) (g_1 : Nat → Int) (g_2 : Nat → Int) (k0 : Bool → β) : β :=
  s_l01In z N g_0 2 8 (fun q6 => cond (!q6) (k0 false) (s_l01Perm z N g_1 g_0 (fun q7 => cond (!q7) (k0 false) (s_l01Perm z N g_2 g_0 (fun q8 => cond (!q8) (k0 false) (s_l01Is_l0 z g_0 g_1 g_2 N 0 (k0 false) (k0 true)))))))

/-- spec.LowerState -/
def s_LowerState {β : Type} (z : β) (N : Nat) (g_0 : Int) (g_1 : Nat → Int) (g_2 : Nat → Int) (k0 : (Nat → Int) → Int → β) : β :=
  s_l01Is z N g_0 g_1 g_2 (fun q6 => cond (!q6) (k0 (fun (x : Nat) => 0) 1) (k0 g_1 0))

/-- (impl.Grid).n -/
def i_Grid_n {β : Type} (z : β) (N : Nat) (g_0 : Int) (g_1 : Nat → Int) (g_2 : Nat → Int) (k0 : β) : β :=
  k0

/-- impl.isOrder, loop -/
def i_isOrder_l0_s2_s {β : Type} (z : β) (n : Int) (h0_0 : Int) (h0_1 : Nat → Int) (h0_2 : Nat → Int) (seen : Int) (t10 : Int) (kn : Int → Int → β) (k0 : β) (k1 : Int → β) : β :=
  cond (decide (t10 < 8)) (cond (decide (0 ≤ t10) && decide (t10 < (↑8 : Int))) (cond (t10.toNat.blt 8) (cond (decide (n ≤ t10)) (cond (h0_1 t10.toNat != 0) (k0) (cond (decide (n ≤ h0_1 t10.toNat)) (k0) (cond (decide (t10 < n)) (cond (decide (0 ≤ h0_1 t10.toNat) && decide (h0_1 t10.toNat < (↑64 : Int))) (cond (fits IntKind.i64 (shlI 1 (h0_1 t10.toNat))) (cond (fits IntKind.i64 (t10 + 1)) (kn (bitI BinOp.or IntKind.i64 seen (shlI 1 (h0_1 t10.toNat))) (t10 + 1)) (z)) (z)) (z)) (cond (fits IntKind.i64 (t10 + 1)) (kn seen (t10 + 1)) (z))))) (cond (decide (n ≤ h0_1 t10.toNat)) (k0) (cond (decide (t10 < n)) (cond (decide (0 ≤ h0_1 t10.toNat) && decide (h0_1 t10.toNat < (↑64 : Int))) (cond (fits IntKind.i64 (shlI 1 (h0_1 t10.toNat))) (cond (fits IntKind.i64 (t10 + 1)) (kn (bitI BinOp.or IntKind.i64 seen (shlI 1 (h0_1 t10.toNat))) (t10 + 1)) (z)) (z)) (z)) (cond (fits IntKind.i64 (t10 + 1)) (kn seen (t10 + 1)) (z))))) (z)) (z)) (k1 seen)
def i_isOrder_l0_s2 {β : Type} (z : β) (n : Int) (h0_0 : Int) (h0_1 : Nat → Int) (h0_2 : Nat → Int) : Nat → Int → Int → β → (Int → β) → β
  | 0, _, _, _, _ => z
  | m + 1, seen, t10, k0, k1 => i_isOrder_l0_s2_s z n h0_0 h0_1 h0_2 seen t10 (fun seen t10 => i_isOrder_l0_s2 z n h0_0 h0_1 h0_2 m seen t10 k0 k1) k0 k1

/-- impl.isOrder -/
def i_isOrder_s2 {β : Type} (z : β) (N : Nat) (n : Int) (h0_0 : Int) (h0_1 : Nat → Int) (h0_2 : Nat → Int) (k0 : Bool → β) : β :=
  i_isOrder_l0_s2 z n h0_0 h0_1 h0_2 N 0 0 (k0 false) (fun q7 => cond (decide (0 ≤ n) && decide (n < (↑64 : Int))) (cond (fits IntKind.i64 (shlI 1 n)) (cond (fits IntKind.i64 (shlI 1 n - 1)) (k0 (q7 == shlI 1 n - 1)) (z)) (z)) (z))

/-- impl.isOrder, loop -/
def i_isOrder_l0_s3_s {β : Type} (z : β) (n : Int) (h0_0 : Int) (h0_1 : Nat → Int) (h0_2 : Nat → Int) (seen : Int) (t10 : Int) (kn : Int → Int → β) (k0 : β) (k1 : Int → β) : β :=
  cond (decide (t10 < 8)) (cond (decide (0 ≤ t10) && decide (t10 < (↑8 : Int))) (cond (t10.toNat.blt 8) (cond (decide (n ≤ t10)) (cond (h0_2 t10.toNat != 0) (k0) (cond (decide (n ≤ h0_2 t10.toNat)) (k0) (cond (decide (t10 < n)) (cond (decide (0 ≤ h0_2 t10.toNat) && decide (h0_2 t10.toNat < (↑64 : Int))) (cond (fits IntKind.i64 (shlI 1 (h0_2 t10.toNat))) (cond (fits IntKind.i64 (t10 + 1)) (kn (bitI BinOp.or IntKind.i64 seen (shlI 1 (h0_2 t10.toNat))) (t10 + 1)) (z)) (z)) (z)) (cond (fits IntKind.i64 (t10 + 1)) (kn seen (t10 + 1)) (z))))) (cond (decide (n ≤ h0_2 t10.toNat)) (k0) (cond (decide (t10 < n)) (cond (decide (0 ≤ h0_2 t10.toNat) && decide (h0_2 t10.toNat < (↑64 : Int))) (cond (fits IntKind.i64 (shlI 1 (h0_2 t10.toNat))) (cond (fits IntKind.i64 (t10 + 1)) (kn (bitI BinOp.or IntKind.i64 seen (shlI 1 (h0_2 t10.toNat))) (t10 + 1)) (z)) (z)) (z)) (cond (fits IntKind.i64 (t10 + 1)) (kn seen (t10 + 1)) (z))))) (z)) (z)) (k1 seen)
def i_isOrder_l0_s3 {β : Type} (z : β) (n : Int) (h0_0 : Int) (h0_1 : Nat → Int) (h0_2 : Nat → Int) : Nat → Int → Int → β → (Int → β) → β
  | 0, _, _, _, _ => z
  | m + 1, seen, t10, k0, k1 => i_isOrder_l0_s3_s z n h0_0 h0_1 h0_2 seen t10 (fun seen t10 => i_isOrder_l0_s3 z n h0_0 h0_1 h0_2 m seen t10 k0 k1) k0 k1

/-- impl.isOrder -/
def i_isOrder_s3 {β : Type} (z : β) (N : Nat) (n : Int) (h0_0 : Int) (h0_1 : Nat → Int) (h0_2 : Nat → Int) (k0 : Bool → β) : β :=
  i_isOrder_l0_s3 z n h0_0 h0_1 h0_2 N 0 0 (k0 false) (fun q7 => cond (decide (0 ≤ n) && decide (n < (↑64 : Int))) (cond (fits IntKind.i64 (shlI 1 n)) (cond (fits IntKind.i64 (shlI 1 n - 1)) (k0 (q7 == shlI 1 n - 1)) (z)) (z)) (z))

/-- impl.IsGrid, loop -/
def i_IsGrid_l0_s {β : Type} (z : β) (t25 : Int) (h0_0 : Int) (h0_1 : Nat → Int) (h0_2 : Nat → Int) (t26 : Int) (kn : Int → β) (k0 : β) (k1 : β) : β :=
  cond (decide (t26 < t25)) (cond (decide (0 ≤ t26) && decide (t26 < (↑8 : Int))) (cond (t26.toNat.blt 8) (cond (decide (0 ≤ t26) && decide (t26 < (↑8 : Int))) (cond (t26.toNat.blt 8) (cond (h0_1 t26.toNat == h0_2 t26.toNat) (k0) (cond (fits IntKind.i64 (t26 + 1)) (kn (t26 + 1)) (z))) (z)) (z)) (z)) (z)) (k1)
def i_IsGrid_l0 {β : Type} (z : β) (t25 : Int) (h0_0 : Int) (h0_1 : Nat → Int) (h0_2 : Nat → Int) : Nat → Int → β → β → β
  | 0, _, _, _ => z
  | m + 1, t26, k0, k1 => i_IsGrid_l0_s z t25 h0_0 h0_1 h0_2 t26 (fun t26 => i_IsGrid_l0 z t25 h0_0 h0_1 h0_2 m t26 k0 k1) k0 k1

/-- impl.IsGrid -/
def i_IsGrid {β : Type} (z : β) (N : Nat) (g_0 : Int) (g_1 : Nat → Int) (g_2 : Nat → Int) (k0 : Bool → β) : β :=
  i_within z N g_0 2 8 (fun q6 => cond (!q6) (k0 false) (i_Grid_n z N g_0 g_1 g_2 (i_isOrder_s2 z N g_0 g_0 g_1 g_2 (fun q7 => cond (!q7) (k0 false) (i_Grid_n z N g_0 g_1 g_2 (i_isOrder_s3 z N g_0 g_0 g_1 g_2 (fun q8 => cond (!q8) (k0 false) (i_Grid_n z N g_0 g_1 g_2 (i_IsGrid_l0 z g_0 g_0 g_1 g_2 N 0 (k0 false) (k0 true))))))))))

/-- impl.LowerState$1 -/
def i_LowerState_1 {β : Type} (z : β) (N : Nat) (g_0 : Int) (g_1 : Nat → Int) (g_2 : Nat → Int) (k0 : β) : β :=
  k0

/-- impl.whole[impl.State] -/
def i_whole_i_State {β : Type} (z : β) (N : Nat) (g_0 : Int) (g_1 : Nat → Int) (g_2 : Nat → Int) (k0 : (Nat → Int) → Int → β) : β :=
  i_IsGrid z N g_0 g_1 g_2 (fun q6 => cond (!q6) (k0 (fun (x : Nat) => 0) 1) (i_LowerState_1 z N g_0 g_1 g_2 (k0 g_1 0)))

/-- impl.LowerState -/
def i_LowerState {β : Type} (z : β) (N : Nat) (g_0 : Int) (g_1 : Nat → Int) (g_2 : Nat → Int) (k0 : (Nat → Int) → Int → β) : β :=
  i_whole_i_State z N g_0 g_1 g_2 (fun q6 q7 => k0 q6 q7)

/-- laws.eqState, loop -/
def w_eqState_l0_s {β : Type} (z : β) (h0 : Nat → Int) (h1 : Nat → Int) (i : Int) (kn : Int → β) (k0 : β) (k1 : β) : β :=
  cond (decide (i < 8)) (cond (decide (0 ≤ i) && decide (i < (↑8 : Int))) (cond (i.toNat.blt 8) (cond (decide (0 ≤ i) && decide (i < (↑8 : Int))) (cond (i.toNat.blt 8) (cond (h0 i.toNat != h1 i.toNat) (k0) (cond (fits IntKind.i64 (i + 1)) (kn (i + 1)) (z))) (z)) (z)) (z)) (z)) (k1)
def w_eqState_l0 {β : Type} (z : β) (h0 : Nat → Int) (h1 : Nat → Int) : Nat → Int → β → β → β
  | 0, _, _, _ => z
  | m + 1, i, k0, k1 => w_eqState_l0_s z h0 h1 i (fun i => w_eqState_l0 z h0 h1 m i k0 k1) k0 k1

/-- laws.eqState -/
def w_eqState {β : Type} (z : β) (N : Nat) (a : Nat → Int) (b : Nat → Int) (k0 : Bool → β) : β :=
  w_eqState_l0 z a b N 0 (k0 false) (k0 true)

/-- laws.FnExactLowerState -/
def w_FnExactLowerState {β : Type} (z : β) (N : Nat) (aG_0 : Int) (aG_1 : Nat → Int) (aG_2 : Nat → Int) (k0 : Bool → β) : β :=
  w_toGrid z N aG_0 aG_1 aG_2 (fun q6 q7 => s_LowerState z N aG_0 q6 q7 (fun q8 q9 => w_toGrid z N aG_0 aG_1 aG_2 (fun q10 q11 => i_LowerState z N aG_0 q10 q11 (fun q12 q13 => w_eqState z N q12 q8 (fun q14 => cond (!q14) (k0 false) (cond (q13 != q9) (k0 false) (k0 true)))))))
end Go.AM

set_option maxRecDepth 100000
namespace Go.AM
/-- spec.TransposeOf, loop -/
def s_TransposeOf_l0_s {β : Type} (z : β) (h0_0 : Int) (h0_1 : Nat → Int) (h0_2 : Nat → Int) (h1_0 : Int) (h1_1 : Nat → Int) (h1_2 : Nat → Int) (h2_0 : Int) (i : Int) (h2_1 : Nat → Int) (h2_2 : Nat → Int) (kn : Int → (Nat → Int) → (Nat → Int) → β) (k0 : (Nat → Int) → (Nat → Int) → β) : β :=
  cond (decide (i < h0_0)) (cond (decide (0 ≤ i) && decide (i < (↑8 : Int))) (cond (i.toNat.blt 8) (cond (decide (0 ≤ h0_1 i.toNat) && decide (h0_1 i.toNat < (↑8 : Int))) (cond ((h0_1 i.toNat).toNat.blt 8) (cond (decide (0 ≤ i) && decide (i < (↑8 : Int))) (cond (i.toNat.blt 8) (cond (decide (0 ≤ h0_2 i.toNat) && decide (h0_2 i.toNat < (↑8 : Int))) (cond ((h0_2 i.toNat).toNat.blt 8) (cond (fits IntKind.i64 (i + 1)) (kn (i + 1) (upd h2_1 (h0_2 i.toNat).toNat (wrapU IntKind.u8 i)) (upd h2_2 (h0_1 i.toNat).toNat (wrapU IntKind.u8 i))) (z)) (z)) (z)) (z)) (z)) (z)) (z)) (z)) (z)) (k0 h2_1 h2_2)
def s_TransposeOf_l0 {β : Type} (z : β) (h0_0 : Int) (h0_1 : Nat → Int) (h0_2 : Nat → Int) (h1_0 : Int) (h1_1 : Nat → Int) (h1_2 : Nat → Int) (h2_0 : Int) : Nat → Int → (Nat → Int) → (Nat → Int) → ((Nat → Int) → (Nat → Int) → β) → β
  | 0, _, _, _, _ => z
  | m + 1, i, h2_1, h2_2, k0 => s_TransposeOf_l0_s z h0_0 h0_1 h0_2 h1_0 h1_1 h1_2 h2_0 i h2_1 h2_2 (fun i h2_1 h2_2 => s_TransposeOf_l0 z h0_0 h0_1 h0_2 h1_0 h1_1 h1_2 h2_0 m i h2_1 h2_2 k0) k0

/-- spec.TransposeOf -/
def s_TransposeOf {β : Type} (z : β) (N : Nat) (g_0 : Int) (g_1 : Nat → Int) (g_2 : Nat → Int) (k0 : Int → (Nat → Int) → (Nat → Int) → Int → β) : β :=
  s_l01Is z N g_0 g_1 g_2 (fun q6 => cond (!q6) (k0 0 (fun (x : Nat) => 0) (fun (x : Nat) => 0) 1) (s_TransposeOf_l0 z g_0 g_1 g_2 0 (fun (x : Nat) => 0) (fun (x : Nat) => 0) g_0 N 0 (fun (x : Nat) => 0) (fun (x : Nat) => 0) (fun q7 q8 => k0 g_0 q7 q8 0)))

/-- (impl.Grid).transpose$1 -/
def i_Grid_transpose_1 {β : Type} (z : β) (N : Nat) (i : Int) (r_ : Int) (k0 : β) : β :=
  k0

/-- (impl.Grid).led, loop -/
def i_Grid_led_l0_s {β : Type} (z : β) (N : Nat) (t22 : Int) (h0_0 : Int) (h0_1 : Nat → Int) (h0_2 : Nat → Int) (h1_0 : Int) (h1_1 : Nat → Int) (h1_2 : Nat → Int) (h2_0 : Int) (t23 : Int) (h2_1 : Nat → Int) (h2_2 : Nat → Int) (kn : Int → (Nat → Int) → (Nat → Int) → β) (k0 : (Nat → Int) → (Nat → Int) → β) : β :=
  cond (decide (t23 < t22)) (cond (decide (0 ≤ t23) && decide (t23 < (↑8 : Int))) (cond (t23.toNat.blt 8) (i_Grid_transpose_1 z N t23 (h0_1 t23.toNat) (cond (decide (0 ≤ h0_1 t23.toNat) && decide (h0_1 t23.toNat < (↑8 : Int))) (cond ((h0_1 t23.toNat).toNat.blt 8) (cond (decide (0 ≤ t23) && decide (t23 < (↑8 : Int))) (cond (t23.toNat.blt 8) (i_Grid_transpose_1 z N t23 (h0_2 t23.toNat) (cond (decide (0 ≤ h0_2 t23.toNat) && decide (h0_2 t23.toNat < (↑8 : Int))) (cond ((h0_2 t23.toNat).toNat.blt 8) (cond (fits IntKind.i64 (t23 + 1)) (kn (t23 + 1) (upd h2_1 (h0_2 t23.toNat).toNat (wrapU IntKind.u8 t23)) (upd h2_2 (h0_1 t23.toNat).toNat (wrapU IntKind.u8 t23))) (z)) (z)) (z))) (z)) (z)) (z)) (z))) (z)) (z)) (k0 h2_1 h2_2)
def i_Grid_led_l0 {β : Type} (z : β) (N : Nat) (t22 : Int) (h0_0 : Int) (h0_1 : Nat → Int) (h0_2 : Nat → Int) (h1_0 : Int) (h1_1 : Nat → Int) (h1_2 : Nat → Int) (h2_0 : Int) : Nat → Int → (Nat → Int) → (Nat → Int) → ((Nat → Int) → (Nat → Int) → β) → β
  | 0, _, _, _, _ => z
  | m + 1, t23, h2_1, h2_2, k0 => i_Grid_led_l0_s z N t22 h0_0 h0_1 h0_2 h1_0 h1_1 h1_2 h2_0 t23 h2_1 h2_2 (fun t23 h2_1 h2_2 => i_Grid_led_l0 z N t22 h0_0 h0_1 h0_2 h1_0 h1_1 h1_2 h2_0 m t23 h2_1 h2_2 k0) k0

/-- (impl.Grid).led, loop -/
def i_Grid_led_l0_s2_s {β : Type} (z : β) (N : Nat) (t22 : Int) (h0_0 : Int) (h0_1 : Nat → Int) (h0_2 : Nat → Int) (h1_0 : Int) (h1_1 : Nat → Int) (h1_2 : Nat → Int) (h2_0 : Int) (t23 : Int) (h2_1 : Nat → Int) (h2_2 : Nat → Int) (kn : Int → (Nat → Int) → (Nat → Int) → β) (k0 : (Nat → Int) → (Nat → Int) → β) : β :=
  cond (decide (t23 < t22)) (cond (decide (0 ≤ t23) && decide (t23 < (↑8 : Int))) (cond (t23.toNat.blt 8) (i_Grid_transpose_1 z N t23 (h0_1 t23.toNat) (cond (decide (0 ≤ h0_1 t23.toNat) && decide (h0_1 t23.toNat < (↑8 : Int))) (cond ((h0_1 t23.toNat).toNat.blt 8) (cond (decide (0 ≤ t23) && decide (t23 < (↑8 : Int))) (cond (t23.toNat.blt 8) (i_Grid_transpose_1 z N t23 (h0_2 t23.toNat) (cond (decide (0 ≤ h0_2 t23.toNat) && decide (h0_2 t23.toNat < (↑8 : Int))) (cond ((h0_2 t23.toNat).toNat.blt 8) (cond (fits IntKind.i64 (t23 + 1)) (kn (t23 + 1) (upd h2_1 (h0_1 t23.toNat).toNat (wrapU IntKind.u8 t23)) (upd h2_2 (h0_2 t23.toNat).toNat (wrapU IntKind.u8 t23))) (z)) (z)) (z))) (z)) (z)) (z)) (z))) (z)) (z)) (k0 h2_1 h2_2)
def i_Grid_led_l0_s2 {β : Type} (z : β) (N : Nat) (t22 : Int) (h0_0 : Int) (h0_1 : Nat → Int) (h0_2 : Nat → Int) (h1_0 : Int) (h1_1 : Nat → Int) (h1_2 : Nat → Int) (h2_0 : Int) : Nat → Int → (Nat → Int) → (Nat → Int) → ((Nat → Int) → (Nat → Int) → β) → β
  | 0, _, _, _, _ => z
  | m + 1, t23, h2_1, h2_2, k0 => i_Grid_led_l0_s2_s z N t22 h0_0 h0_1 h0_2 h1_0 h1_1 h1_2 h2_0 t23 h2_1 h2_2 (fun t23 h2_1 h2_2 => i_Grid_led_l0_s2 z N t22 h0_0 h0_1 h0_2 h1_0 h1_1 h1_2 h2_0 m t23 h2_1 h2_2 k0) k0

/-- (impl.Grid).led -/
def i_Grid_led {β : Type} (z : β) (N : Nat) (g_0 : Int) (g_1 : Nat → Int) (g_2 : Nat → Int) (exchanged : Bool) (k0 : (Nat → Int) → (Nat → Int) → β) : β :=
  cond (exchanged) (i_Grid_n z N g_0 g_1 g_2 (i_Grid_led_l0 z N g_0 g_0 g_1 g_2 0 (fun (x : Nat) => 0) (fun (x : Nat) => 0) g_0 N 0 (fun (x : Nat) => 0) (fun (x : Nat) => 0) (fun q7 q8 => k0 q7 q8))) (i_Grid_n z N g_0 g_1 g_2 (i_Grid_led_l0_s2 z N g_0 g_0 g_1 g_2 0 (fun (x : Nat) => 0) (fun (x : Nat) => 0) g_0 N 0 (fun (x : Nat) => 0) (fun (x : Nat) => 0) (fun q7 q8 => k0 q7 q8)))

/-- (impl.Grid).transpose -/
def i_Grid_transpose {β : Type} (z : β) (N : Nat) (g_0 : Int) (g_1 : Nat → Int) (g_2 : Nat → Int) (k0 : (Nat → Int) → (Nat → Int) → β) : β :=
  i_Grid_led z N g_0 g_1 g_2 true (fun q6 q7 => k0 q6 q7)

/-- impl.whole[impl.Grid] -/
def i_whole_i_Grid {β : Type} (z : β) (N : Nat) (g_0 : Int) (g_1 : Nat → Int) (g_2 : Nat → Int) (k0 : Int → (Nat → Int) → (Nat → Int) → Int → β) : β :=
  i_IsGrid z N g_0 g_1 g_2 (fun q6 => cond (!q6) (k0 0 (fun (x : Nat) => 0) (fun (x : Nat) => 0) 1) (i_Grid_transpose z N g_0 g_1 g_2 (fun q7 q8 => k0 g_0 q7 q8 0)))

/-- impl.TransposeOf -/
def i_TransposeOf {β : Type} (z : β) (N : Nat) (g_0 : Int) (g_1 : Nat → Int) (g_2 : Nat → Int) (k0 : Int → (Nat → Int) → (Nat → Int) → Int → β) : β :=
  i_whole_i_Grid z N g_0 g_1 g_2 (fun q6 q7 q8 q9 => k0 q6 q7 q8 q9)

/-- laws.eqByteA8, loop -/
def w_eqByteA8_l0_s {β : Type} (z : β) (h0 : Nat → Int) (h1 : Nat → Int) (i : Int) (kn : Int → β) (k0 : β) (k1 : β) : β :=
  cond (decide (i < 8)) (cond (decide (0 ≤ i) && decide (i < (↑8 : Int))) (cond (i.toNat.blt 8) (cond (decide (0 ≤ i) && decide (i < (↑8 : Int))) (cond (i.toNat.blt 8) (cond (h0 i.toNat != h1 i.toNat) (k0) (cond (fits IntKind.i64 (i + 1)) (kn (i + 1)) (z))) (z)) (z)) (z)) (z)) (k1)
def w_eqByteA8_l0 {β : Type} (z : β) (h0 : Nat → Int) (h1 : Nat → Int) : Nat → Int → β → β → β
  | 0, _, _, _ => z
  | m + 1, i, k0, k1 => w_eqByteA8_l0_s z h0 h1 i (fun i => w_eqByteA8_l0 z h0 h1 m i k0 k1) k0 k1

/-- laws.eqByteA8 -/
def w_eqByteA8 {β : Type} (z : β) (N : Nat) (a : Nat → Int) (b : Nat → Int) (k0 : Bool → β) : β :=
  w_eqByteA8_l0 z a b N 0 (k0 false) (k0 true)

/-- laws.eqGrid -/
def w_eqGrid {β : Type} (z : β) (N : Nat) (a_0 : Int) (a_1 : Nat → Int) (a_2 : Nat → Int) (b_0 : Int) (b_1 : Nat → Int) (b_2 : Nat → Int) (k0 : Bool → β) : β :=
  cond (a_0 != b_0) (k0 false) (w_eqByteA8 z N a_1 b_1 (fun q9 => cond (!q9) (k0 false) (w_eqByteA8 z N a_2 b_2 (fun q10 => cond (!q10) (k0 false) (k0 true)))))

/-- laws.FnExactTransposeOf -/
def w_FnExactTransposeOf {β : Type} (z : β) (N : Nat) (aG_0 : Int) (aG_1 : Nat → Int) (aG_2 : Nat → Int) (k0 : Bool → β) : β :=
  w_toGrid z N aG_0 aG_1 aG_2 (fun q6 q7 => s_TransposeOf z N aG_0 q6 q7 (fun q8 q9 q10 q11 => w_toGrid z N aG_0 aG_1 aG_2 (fun q12 q13 => i_TransposeOf z N aG_0 q12 q13 (fun q14 q15 q16 q17 => w_eqGrid z N q14 q15 q16 q8 q9 q10 (fun q18 => cond (!q18) (k0 false) (cond (q17 != q11) (k0 false) (k0 true)))))))
end Go.AM

set_option maxRecDepth 100000
namespace Go.AM
/-- spec.l02Place, loop -/
def s_l02Place_l0_s {β : Type} (z : β) (N : Nat) (h0 : List Int) (h1_0 : Int) (h1_1 : Nat → Int) (h1_2 : Nat → Int) (i : Int) (kn : Int → β) (k0 : β) (k1 : β) : β :=
  cond (decide (i < (↑1 : Int))) (cond (Nat.beq 1 h0.length && (decide (0 ≤ i) && decide (i < (↑1 : Int)))) (cond (Nat.beq 1 h0.length && i.toNat.blt h0.length) (cond (fits IntKind.i64 (h1_0 - 2)) (s_l01In z N (h0[i.toNat]?.getD 0) 0 (h1_0 - 2) (fun q9 => cond (!q9) (k0) (cond (fits IntKind.i64 (i + 1)) (kn (i + 1)) (z)))) (z)) (z)) (z)) (k1)
def s_l02Place_l0 {β : Type} (z : β) (N : Nat) (h0 : List Int) (h1_0 : Int) (h1_1 : Nat → Int) (h1_2 : Nat → Int) : Nat → Int → β → β → β
  | 0, _, _, _ => z
  | m + 1, i, k0, k1 => s_l02Place_l0_s z N h0 h1_0 h1_1 h1_2 i (fun i => s_l02Place_l0 z N h0 h1_0 h1_1 h1_2 m i k0 k1) k0 k1

/-- spec.l02Place -/
def s_l02Place {β : Type} (z : β) (N : Nat) (g_0 : Int) (g_1 : Nat → Int) (g_2 : Nat → Int) (h0 : List Int) (k0 : Int → β) : β :=
  s_l01Is z N g_0 g_1 g_2 (fun q7 => cond (!q7) (k0 1) (s_l02Place_l0 z N h0 g_0 g_1 g_2 N 0 (k0 2) (k0 0)))

/-- spec.l01Row, loop -/
def s_l01Row_l0_s {β : Type} (z : β) (n : Int) (r_ : Int) (h0 : Nat → Int) (i : Int) (kn : Int → β) (k0 : Int → β) (k1 : β) : β :=
  cond (decide (i < n)) (cond (decide (0 ≤ i) && decide (i < (↑8 : Int))) (cond (i.toNat.blt 8) (cond (h0 i.toNat == r_) (k0 i) (cond (fits IntKind.i64 (i + 1)) (kn (i + 1)) (z))) (z)) (z)) (k1)
def s_l01Row_l0 {β : Type} (z : β) (n : Int) (r_ : Int) (h0 : Nat → Int) : Nat → Int → (Int → β) → β → β
  | 0, _, _, _ => z
  | m + 1, i, k0, k1 => s_l01Row_l0_s z n r_ h0 i (fun i => s_l01Row_l0 z n r_ h0 m i k0 k1) k0 k1

/-- spec.l01Row -/
def s_l01Row {β : Type} (z : β) (N : Nat) (list : Nat → Int) (n : Int) (r_ : Int) (k0 : Int → β) : β :=
  s_l01Row_l0 z n r_ list N 0 (fun q6 => k0 q6) (k0 0)

/-- spec.l02Free -/
def s_l02Free {β : Type} (z : β) (N : Nat) (a : Int) (a1 : Int) (a2 : Int) (a3 : Int) (k0 : Bool → β) : β :=
  cond (a == a2) (k0 false) (cond (a == a3) (k0 false) (cond (a1 == a2) (k0 false) (cond (a1 == a3) (k0 false) (cond (decide ((bif decide (a1 < a) then a1 else a) < a2)) (cond (decide ((bif decide (a1 < a) then a1 else a) < a3)) (cond (decide (a2 < bif decide (a < a1) then a1 else a) == decide (a3 < bif decide (a < a1) then a1 else a)) (k0 true) (cond (decide ((bif decide (a3 < a2) then a3 else a2) < a)) (cond (decide ((bif decide (a3 < a2) then a3 else a2) < a1)) (k0 (decide (a < bif decide (a2 < a3) then a3 else a2) == decide (a1 < bif decide (a2 < a3) then a3 else a2))) (k0 (decide (a < bif decide (a2 < a3) then a3 else a2) == false))) (cond (decide ((bif decide (a3 < a2) then a3 else a2) < a1)) (k0 (false == decide (a1 < bif decide (a2 < a3) then a3 else a2))) (k0 true)))) (cond (decide (a2 < bif decide (a < a1) then a1 else a) == false) (k0 true) (cond (decide ((bif decide (a3 < a2) then a3 else a2) < a)) (cond (decide ((bif decide (a3 < a2) then a3 else a2) < a1)) (k0 (decide (a < bif decide (a2 < a3) then a3 else a2) == decide (a1 < bif decide (a2 < a3) then a3 else a2))) (k0 (decide (a < bif decide (a2 < a3) then a3 else a2) == false))) (cond (decide ((bif decide (a3 < a2) then a3 else a2) < a1)) (k0 (false == decide (a1 < bif decide (a2 < a3) then a3 else a2))) (k0 true))))) (cond (decide ((bif decide (a1 < a) then a1 else a) < a3)) (cond (false == decide (a3 < bif decide (a < a1) then a1 else a)) (k0 true) (cond (decide ((bif decide (a3 < a2) then a3 else a2) < a)) (cond (decide ((bif decide (a3 < a2) then a3 else a2) < a1)) (k0 (decide (a < bif decide (a2 < a3) then a3 else a2) == decide (a1 < bif decide (a2 < a3) then a3 else a2))) (k0 (decide (a < bif decide (a2 < a3) then a3 else a2) == false))) (cond (decide ((bif decide (a3 < a2) then a3 else a2) < a1)) (k0 (false == decide (a1 < bif decide (a2 < a3) then a3 else a2))) (k0 true)))) (k0 true))))))

/-- spec.l02Rows -/
def s_l02Rows {β : Type} (z : β) (N : Nat) (g_0 : Int) (g_1 : Nat → Int) (g_2 : Nat → Int) (r_ : Int) (k0 : Bool → β) : β :=
  s_l01Row z N g_1 g_0 r_ (fun q7 => s_l01Row z N g_2 g_0 r_ (fun q8 => cond (fits IntKind.i64 (r_ + 1)) (s_l01Row z N g_1 g_0 (r_ + 1) (fun q9 => cond (fits IntKind.i64 (r_ + 1)) (s_l01Row z N g_2 g_0 (r_ + 1) (fun q10 => s_l02Free z N q7 q8 q9 q10 (fun q11 => k0 q11))) (z))) (z)))

/-- spec.l02SwapRows, loop -/
def s_l02SwapRows_l0_s {β : Type} (z : β) (a : Int) (b : Int) (h0_0 : Int) (h1_0 : Int) (h1_1 : Nat → Int) (h1_2 : Nat → Int) (i : Int) (h0_1 : Nat → Int) (h0_2 : Nat → Int) (kn : Int → (Nat → Int) → (Nat → Int) → β) (k0 : (Nat → Int) → (Nat → Int) → β) : β :=
  cond (decide (i < h0_0)) (cond (decide (0 ≤ i) && decide (i < (↑8 : Int))) (cond (i.toNat.blt 8) (cond (h0_1 i.toNat == a) (cond (decide (0 ≤ i) && decide (i < (↑8 : Int))) (cond (i.toNat.blt 8) (cond (decide (0 ≤ i) && decide (i < (↑8 : Int))) (cond (i.toNat.blt 8) (cond (h0_2 i.toNat == a) (cond (decide (0 ≤ i) && decide (i < (↑8 : Int))) (cond (i.toNat.blt 8) (cond (fits IntKind.i64 (i + 1)) (kn (i + 1) (upd h0_1 i.toNat b) (upd h0_2 i.toNat b)) (z)) (z)) (z)) (cond (h0_2 i.toNat == b) (cond (decide (0 ≤ i) && decide (i < (↑8 : Int))) (cond (i.toNat.blt 8) (cond (fits IntKind.i64 (i + 1)) (kn (i + 1) (upd h0_1 i.toNat b) (upd h0_2 i.toNat a)) (z)) (z)) (z)) (cond (fits IntKind.i64 (i + 1)) (kn (i + 1) (upd h0_1 i.toNat b) h0_2) (z)))) (z)) (z)) (z)) (z)) (cond (h0_1 i.toNat == b) (cond (decide (0 ≤ i) && decide (i < (↑8 : Int))) (cond (i.toNat.blt 8) (cond (decide (0 ≤ i) && decide (i < (↑8 : Int))) (cond (i.toNat.blt 8) (cond (h0_2 i.toNat == a) (cond (decide (0 ≤ i) && decide (i < (↑8 : Int))) (cond (i.toNat.blt 8) (cond (fits IntKind.i64 (i + 1)) (kn (i + 1) (upd h0_1 i.toNat a) (upd h0_2 i.toNat b)) (z)) (z)) (z)) (cond (h0_2 i.toNat == b) (cond (decide (0 ≤ i) && decide (i < (↑8 : Int))) (cond (i.toNat.blt 8) (cond (fits IntKind.i64 (i + 1)) (kn (i + 1) (upd h0_1 i.toNat a) (upd h0_2 i.toNat a)) (z)) (z)) (z)) (cond (fits IntKind.i64 (i + 1)) (kn (i + 1) (upd h0_1 i.toNat a) h0_2) (z)))) (z)) (z)) (z)) (z)) (cond (decide (0 ≤ i) && decide (i < (↑8 : Int))) (cond (i.toNat.blt 8) (cond (h0_2 i.toNat == a) (cond (decide (0 ≤ i) && decide (i < (↑8 : Int))) (cond (i.toNat.blt 8) (cond (fits IntKind.i64 (i + 1)) (kn (i + 1) h0_1 (upd h0_2 i.toNat b)) (z)) (z)) (z)) (cond (h0_2 i.toNat == b) (cond (decide (0 ≤ i) && decide (i < (↑8 : Int))) (cond (i.toNat.blt 8) (cond (fits IntKind.i64 (i + 1)) (kn (i + 1) h0_1 (upd h0_2 i.toNat a)) (z)) (z)) (z)) (cond (fits IntKind.i64 (i + 1)) (kn (i + 1) h0_1 h0_2) (z)))) (z)) (z)))) (z)) (z)) (k0 h0_1 h0_2)
def s_l02SwapRows_l0 {β : Type} (z : β) (a : Int) (b : Int) (h0_0 : Int) (h1_0 : Int) (h1_1 : Nat → Int) (h1_2 : Nat → Int) : Nat → Int → (Nat → Int) → (Nat → Int) → ((Nat → Int) → (Nat → Int) → β) → β
  | 0, _, _, _, _ => z
  | m + 1, i, h0_1, h0_2, k0 => s_l02SwapRows_l0_s z a b h0_0 h1_0 h1_1 h1_2 i h0_1 h0_2 (fun i h0_1 h0_2 => s_l02SwapRows_l0 z a b h0_0 h1_0 h1_1 h1_2 m i h0_1 h0_2 k0) k0

/-- spec.l02SwapRows -/
def s_l02SwapRows {β : Type} (z : β) (N : Nat) (g_0 : Int) (g_1 : Nat → Int) (g_2 : Nat → Int) (r_ : Int) (k0 : (Nat → Int) → (Nat → Int) → β) : β :=
  cond (fits IntKind.i64 (r_ + 1)) (s_l02SwapRows_l0 z (wrapU IntKind.u8 r_) (wrapU IntKind.u8 (r_ + 1)) g_0 0 (fun (x : Nat) => 0) (fun (x : Nat) => 0) N 0 g_1 g_2 (fun q7 q8 => k0 q7 q8)) (z)

/-- spec.ExchangeRows -/
def s_ExchangeRows {β : Type} (z : β) (N : Nat) (g_0 : Int) (g_1 : Nat → Int) (g_2 : Nat → Int) (r_ : Int) (k0 : Int → (Nat → Int) → (Nat → Int) → Int → β) : β :=
  s_l02Place z N g_0 g_1 g_2 ((List.replicate 1 0).set 0 r_) (fun q7 => cond (q7 != 0) (k0 0 (fun (x : Nat) => 0) (fun (x : Nat) => 0) q7) (s_l02Rows z N g_0 g_1 g_2 r_ (fun q8 => cond (!q8) (k0 0 (fun (x : Nat) => 0) (fun (x : Nat) => 0) 5) (s_l02SwapRows z N g_0 g_1 g_2 r_ (fun q9 q10 => k0 g_0 q9 q10 0)))))

/-- impl.isPair, loop -/
def i_isPair_l0_s {β : Type} (z : β) (N : Nat) (h0 : List Int) (h1_0 : Int) (h1_1 : Nat → Int) (h1_2 : Nat → Int) (t12 : Int) (kn : Int → β) (k0 : β) (k1 : β) : β :=
  cond (decide (t12 < 1)) (cond (Nat.beq 1 h0.length && (decide (0 ≤ t12) && decide (t12 < (↑1 : Int)))) (cond (Nat.beq 1 h0.length && t12.toNat.blt h0.length) (cond (fits IntKind.i64 (h1_0 - 2)) (i_within z N (h0[t12.toNat]?.getD 0) 0 (h1_0 - 2) (fun q9 => cond (!q9) (k0) (cond (fits IntKind.i64 (t12 + 1)) (kn (t12 + 1)) (z)))) (z)) (z)) (z)) (k1)
def i_isPair_l0 {β : Type} (z : β) (N : Nat) (h0 : List Int) (h1_0 : Int) (h1_1 : Nat → Int) (h1_2 : Nat → Int) : Nat → Int → β → β → β
  | 0, _, _, _ => z
  | m + 1, t12, k0, k1 => i_isPair_l0_s z N h0 h1_0 h1_1 h1_2 t12 (fun t12 => i_isPair_l0 z N h0 h1_0 h1_1 h1_2 m t12 k0 k1) k0 k1

/-- impl.isPair -/
def i_isPair {β : Type} (z : β) (N : Nat) (g_0 : Int) (g_1 : Nat → Int) (g_2 : Nat → Int) (h0 : List Int) (k0 : Int → β) : β :=
  i_IsGrid z N g_0 g_1 g_2 (fun q7 => cond (!q7) (k0 1) (i_isPair_l0 z N h0 g_0 g_1 g_2 N 0 (k0 2) (k0 0)))

/-- (impl.Grid).places, loop -/
def i_Grid_places_l0_s {β : Type} (z : β) (t9 : Int) (h0_0 : Int) (h0_1 : Nat → Int) (h0_2 : Nat → Int) (h1 : Nat → Int) (h2 : Nat → Int) (t10 : Int) (h3 : Nat → Int) (kn : Int → (Nat → Int) → β) (k0 : (Nat → Int) → β) : β :=
  cond (decide (t10 < t9)) (cond (decide (0 ≤ t10) && decide (t10 < (↑8 : Int))) (cond (t10.toNat.blt 8) (cond (decide (0 ≤ h1 t10.toNat) && decide (h1 t10.toNat < (↑8 : Int))) (cond ((h1 t10.toNat).toNat.blt 8) (cond (fits IntKind.i64 (t10 + 1)) (kn (t10 + 1) (upd h3 (h1 t10.toNat).toNat t10)) (z)) (z)) (z)) (z)) (z)) (k0 h3)
def i_Grid_places_l0 {β : Type} (z : β) (t9 : Int) (h0_0 : Int) (h0_1 : Nat → Int) (h0_2 : Nat → Int) (h1 : Nat → Int) (h2 : Nat → Int) : Nat → Int → (Nat → Int) → ((Nat → Int) → β) → β
  | 0, _, _, _ => z
  | m + 1, t10, h3, k0 => i_Grid_places_l0_s z t9 h0_0 h0_1 h0_2 h1 h2 t10 h3 (fun t10 h3 => i_Grid_places_l0 z t9 h0_0 h0_1 h0_2 h1 h2 m t10 h3 k0) k0

/-- (impl.Grid).places -/
def i_Grid_places {β : Type} (z : β) (N : Nat) (g_0 : Int) (g_1 : Nat → Int) (g_2 : Nat → Int) (rows : Nat → Int) (k0 : (Nat → Int) → β) : β :=
  i_Grid_n z N g_0 g_1 g_2 (i_Grid_places_l0 z g_0 g_0 g_1 g_2 rows (fun (x : Nat) => 0) N 0 (fun (x : Nat) => 0) (fun q7 => k0 q7))

/-- impl.areApart -/
def i_areApart {β : Type} (z : β) (N : Nat) (a : Int) (b : Int) (c : Int) (d : Int) (k0 : Bool → β) : β :=
  cond (a == c) (k0 false) (cond (a == d) (k0 false) (cond (b == c) (k0 false) (cond (b == d) (k0 false) (cond (decide ((bif decide (b < a) then b else a) < c)) (cond (decide ((bif decide (b < a) then b else a) < d)) (k0 (decide (c < bif decide (a < b) then b else a) == decide (d < bif decide (a < b) then b else a))) (k0 (decide (c < bif decide (a < b) then b else a) == false))) (cond (decide ((bif decide (b < a) then b else a) < d)) (k0 (false == decide (d < bif decide (a < b) then b else a))) (k0 true))))))

/-- (impl.Grid).canRows -/
def i_Grid_canRows {β : Type} (z : β) (N : Nat) (g_0 : Int) (g_1 : Nat → Int) (g_2 : Nat → Int) (r_ : Int) (k0 : Bool → β) : β :=
  i_Grid_places z N g_0 g_1 g_2 g_1 (fun q7 => i_Grid_places z N g_0 g_1 g_2 g_2 (fun q8 => cond (decide (0 ≤ r_) && decide (r_ < (↑8 : Int))) (cond (r_.toNat.blt 8) (cond (decide (0 ≤ r_) && decide (r_ < (↑8 : Int))) (cond (r_.toNat.blt 8) (cond (fits IntKind.i64 (r_ + 1)) (cond (decide (0 ≤ r_ + 1) && decide (r_ + 1 < (↑8 : Int))) (cond ((r_ + 1).toNat.blt 8) (cond (fits IntKind.i64 (r_ + 1)) (cond (decide (0 ≤ r_ + 1) && decide (r_ + 1 < (↑8 : Int))) (cond ((r_ + 1).toNat.blt 8) (i_areApart z N (q7 r_.toNat) (q8 r_.toNat) (q7 (r_ + 1).toNat) (q8 (r_ + 1).toNat) (fun q9 => k0 q9)) (z)) (z)) (z)) (z)) (z)) (z)) (z)) (z)) (z)) (z)))

/-- impl.CanExchangeRows -/
def i_CanExchangeRows {β : Type} (z : β) (N : Nat) (g_0 : Int) (g_1 : Nat → Int) (g_2 : Nat → Int) (r_ : Int) (k0 : Bool → Int → β) : β :=
  i_isPair z N g_0 g_1 g_2 ((List.replicate 1 0).set 0 r_) (fun q7 => cond (q7 != 0) (k0 false q7) (i_Grid_canRows z N g_0 g_1 g_2 r_ (fun q8 => k0 q8 0)))

/-- (impl.Grid).swapRows$1 -/
def i_Grid_swapRows_1 {β : Type} (z : β) (N : Nat) (i : Int) (row : Int) (h0 : Int) (k0 : Int → β) : β :=
  cond (row == h0) (cond (fits IntKind.i64 (h0 + 1)) (k0 (h0 + 1)) (z)) (cond (fits IntKind.i64 (h0 + 1)) (cond (row == h0 + 1) (k0 h0) (k0 row)) (z))

/-- (impl.Grid).led, loop -/
def i_Grid_led_l0_s5_s {β : Type} (z : β) (N : Nat) (t22 : Int) (h0 : Int) (h1_0 : Int) (h1_1 : Nat → Int) (h1_2 : Nat → Int) (h2_0 : Int) (h2_1 : Nat → Int) (h2_2 : Nat → Int) (h3_0 : Int) (t23 : Int) (h3_1 : Nat → Int) (h3_2 : Nat → Int) (kn : Int → (Nat → Int) → (Nat → Int) → β) (k0 : (Nat → Int) → (Nat → Int) → β) : β :=
  cond (decide (t23 < t22)) (cond (decide (0 ≤ t23) && decide (t23 < (↑8 : Int))) (cond (t23.toNat.blt 8) (i_Grid_swapRows_1 z N t23 (h1_1 t23.toNat) h0 (fun q16 => cond (decide (0 ≤ t23) && decide (t23 < (↑8 : Int))) (cond (t23.toNat.blt 8) (cond (decide (0 ≤ t23) && decide (t23 < (↑8 : Int))) (cond (t23.toNat.blt 8) (i_Grid_swapRows_1 z N t23 (h1_2 t23.toNat) h0 (fun q17 => cond (decide (0 ≤ t23) && decide (t23 < (↑8 : Int))) (cond (t23.toNat.blt 8) (cond (fits IntKind.i64 (t23 + 1)) (kn (t23 + 1) (upd h3_1 t23.toNat (wrapU IntKind.u8 q17)) (upd h3_2 t23.toNat (wrapU IntKind.u8 q16))) (z)) (z)) (z))) (z)) (z)) (z)) (z))) (z)) (z)) (k0 h3_1 h3_2)
def i_Grid_led_l0_s5 {β : Type} (z : β) (N : Nat) (t22 : Int) (h0 : Int) (h1_0 : Int) (h1_1 : Nat → Int) (h1_2 : Nat → Int) (h2_0 : Int) (h2_1 : Nat → Int) (h2_2 : Nat → Int) (h3_0 : Int) : Nat → Int → (Nat → Int) → (Nat → Int) → ((Nat → Int) → (Nat → Int) → β) → β
  | 0, _, _, _, _ => z
  | m + 1, t23, h3_1, h3_2, k0 => i_Grid_led_l0_s5_s z N t22 h0 h1_0 h1_1 h1_2 h2_0 h2_1 h2_2 h3_0 t23 h3_1 h3_2 (fun t23 h3_1 h3_2 => i_Grid_led_l0_s5 z N t22 h0 h1_0 h1_1 h1_2 h2_0 h2_1 h2_2 h3_0 m t23 h3_1 h3_2 k0) k0

/-- (impl.Grid).led, loop -/
def i_Grid_led_l0_s6_s {β : Type} (z : β) (N : Nat) (t22 : Int) (h0 : Int) (h1_0 : Int) (h1_1 : Nat → Int) (h1_2 : Nat → Int) (h2_0 : Int) (h2_1 : Nat → Int) (h2_2 : Nat → Int) (h3_0 : Int) (t23 : Int) (h3_1 : Nat → Int) (h3_2 : Nat → Int) (kn : Int → (Nat → Int) → (Nat → Int) → β) (k0 : (Nat → Int) → (Nat → Int) → β) : β :=
  cond (decide (t23 < t22)) (cond (decide (0 ≤ t23) && decide (t23 < (↑8 : Int))) (cond (t23.toNat.blt 8) (i_Grid_swapRows_1 z N t23 (h1_1 t23.toNat) h0 (fun q16 => cond (decide (0 ≤ t23) && decide (t23 < (↑8 : Int))) (cond (t23.toNat.blt 8) (cond (decide (0 ≤ t23) && decide (t23 < (↑8 : Int))) (cond (t23.toNat.blt 8) (i_Grid_swapRows_1 z N t23 (h1_2 t23.toNat) h0 (fun q17 => cond (decide (0 ≤ t23) && decide (t23 < (↑8 : Int))) (cond (t23.toNat.blt 8) (cond (fits IntKind.i64 (t23 + 1)) (kn (t23 + 1) (upd h3_1 t23.toNat (wrapU IntKind.u8 q16)) (upd h3_2 t23.toNat (wrapU IntKind.u8 q17))) (z)) (z)) (z))) (z)) (z)) (z)) (z))) (z)) (z)) (k0 h3_1 h3_2)
def i_Grid_led_l0_s6 {β : Type} (z : β) (N : Nat) (t22 : Int) (h0 : Int) (h1_0 : Int) (h1_1 : Nat → Int) (h1_2 : Nat → Int) (h2_0 : Int) (h2_1 : Nat → Int) (h2_2 : Nat → Int) (h3_0 : Int) : Nat → Int → (Nat → Int) → (Nat → Int) → ((Nat → Int) → (Nat → Int) → β) → β
  | 0, _, _, _, _ => z
  | m + 1, t23, h3_1, h3_2, k0 => i_Grid_led_l0_s6_s z N t22 h0 h1_0 h1_1 h1_2 h2_0 h2_1 h2_2 h3_0 t23 h3_1 h3_2 (fun t23 h3_1 h3_2 => i_Grid_led_l0_s6 z N t22 h0 h1_0 h1_1 h1_2 h2_0 h2_1 h2_2 h3_0 m t23 h3_1 h3_2 k0) k0

/-- (impl.Grid).led -/
def i_Grid_led_s3 {β : Type} (z : β) (N : Nat) (g_0 : Int) (g_1 : Nat → Int) (g_2 : Nat → Int) (exchanged : Bool) (h0 : Int) (k0 : (Nat → Int) → (Nat → Int) → β) : β :=
  cond (exchanged) (i_Grid_n z N g_0 g_1 g_2 (i_Grid_led_l0_s5 z N g_0 h0 g_0 g_1 g_2 0 (fun (x : Nat) => 0) (fun (x : Nat) => 0) g_0 N 0 (fun (x : Nat) => 0) (fun (x : Nat) => 0) (fun q8 q9 => k0 q8 q9))) (i_Grid_n z N g_0 g_1 g_2 (i_Grid_led_l0_s6 z N g_0 h0 g_0 g_1 g_2 0 (fun (x : Nat) => 0) (fun (x : Nat) => 0) g_0 N 0 (fun (x : Nat) => 0) (fun (x : Nat) => 0) (fun q8 q9 => k0 q8 q9)))

/-- (impl.Grid).swapRows -/
def i_Grid_swapRows {β : Type} (z : β) (N : Nat) (g_0 : Int) (g_1 : Nat → Int) (g_2 : Nat → Int) (r_ : Int) (k0 : (Nat → Int) → (Nat → Int) → β) : β :=
  i_Grid_led_s3 z N g_0 g_1 g_2 false r_ (fun q7 q8 => k0 q7 q8)

/-- impl.ExchangeRows -/
def i_ExchangeRows {β : Type} (z : β) (N : Nat) (g_0 : Int) (g_1 : Nat → Int) (g_2 : Nat → Int) (r_ : Int) (k0 : Int → (Nat → Int) → (Nat → Int) → Int → β) : β :=
  i_CanExchangeRows z N g_0 g_1 g_2 r_ (fun q7 q8 => cond (q8 != 0) (k0 0 (fun (x : Nat) => 0) (fun (x : Nat) => 0) q8) (cond (!q7) (k0 0 (fun (x : Nat) => 0) (fun (x : Nat) => 0) 5) (i_Grid_swapRows z N g_0 g_1 g_2 r_ (fun q9 q10 => k0 g_0 q9 q10 0))))

/-- laws.FnExactExchangeRows -/
def w_FnExactExchangeRows {β : Type} (z : β) (N : Nat) (aG_0 : Int) (aG_1 : Nat → Int) (aG_2 : Nat → Int) (aR : Int) (k0 : Bool → β) : β :=
  w_toGrid z N aG_0 aG_1 aG_2 (fun q7 q8 => s_ExchangeRows z N aG_0 q7 q8 aR (fun q9 q10 q11 q12 => w_toGrid z N aG_0 aG_1 aG_2 (fun q13 q14 => i_ExchangeRows z N aG_0 q13 q14 aR (fun q15 q16 q17 q18 => w_eqGrid z N q15 q16 q17 q9 q10 q11 (fun q19 => cond (!q19) (k0 false) (cond (q18 != q12) (k0 false) (k0 true)))))))
end Go.AM

set_option maxRecDepth 100000
namespace Go.AM
/-- laws.toState, loop -/
def w_toState_l0_s {β : Type} (z : β) (h0 : Nat → Int) (h1 : Nat → Int) (i : Int) (h2 : Nat → Int) (kn : Int → (Nat → Int) → β) (k0 : (Nat → Int) → β) : β :=
  cond (decide (i < 8)) (cond (decide (0 ≤ i) && decide (i < (↑8 : Int))) (cond (i.toNat.blt 8) (cond (decide (0 ≤ i) && decide (i < (↑8 : Int))) (cond (i.toNat.blt 8) (cond (fits IntKind.i64 (i + 1)) (kn (i + 1) (upd h2 i.toNat (h0 i.toNat))) (z)) (z)) (z)) (z)) (z)) (k0 h2)
def w_toState_l0 {β : Type} (z : β) (h0 : Nat → Int) (h1 : Nat → Int) : Nat → Int → (Nat → Int) → ((Nat → Int) → β) → β
  | 0, _, _, _ => z
  | m + 1, i, h2, k0 => w_toState_l0_s z h0 h1 i h2 (fun i h2 => w_toState_l0 z h0 h1 m i h2 k0) k0

/-- laws.toState -/
def w_toState {β : Type} (z : β) (N : Nat) (a : Nat → Int) (k0 : (Nat → Int) → β) : β :=
  w_toState_l0 z a (fun (x : Nat) => 0) N 0 (fun (x : Nat) => 0) (fun q4 => k0 q4)

/-- spec.l05Is -/
def s_l05Is {β : Type} (z : β) (N : Nat) (g_0 : Int) (g_1 : Nat → Int) (g_2 : Nat → Int) (x : Nat → Int) (k0 : Bool → β) : β :=
  s_l01Is z N g_0 g_1 g_2 (fun q7 => cond (q7) (s_l01Perm z N x g_0 (fun q8 => k0 q8)) (k0 false))

/-- spec.l05Below, loop -/
def s_l05Below_l1_s {β : Type} (z : β) (n : Int) (more : Int) (other : Int) (i : Int) (h0 : Nat → Int) (h1 : Nat → Int) (count : Int) (k : Int) (kn : Int → Int → β) (k0 : Int → β) : β :=
  cond (decide (k < n)) (cond (fits IntKind.i64 (2 * i)) (cond (fits IntKind.i64 (2 * i + more)) (cond (fits IntKind.i64 (2 * k)) (cond (fits IntKind.i64 (2 * k + other)) (cond (decide (2 * i + more < 2 * k + other)) (cond (decide (0 ≤ i) && decide (i < (↑8 : Int))) (cond (i.toNat.blt 8) (cond (fits IntKind.i64 (2 * h0 i.toNat)) (cond (fits IntKind.i64 (2 * h0 i.toNat + more)) (cond (decide (0 ≤ k) && decide (k < (↑8 : Int))) (cond (k.toNat.blt 8) (cond (fits IntKind.i64 (2 * h1 k.toNat)) (cond (fits IntKind.i64 (2 * h1 k.toNat + other)) (cond (decide (2 * h0 i.toNat + more < 2 * h1 k.toNat + other)) (cond (fits IntKind.i64 (count + 1)) (cond (fits IntKind.i64 (k + 1)) (kn (count + 1) (k + 1)) (z)) (z)) (cond (fits IntKind.i64 (k + 1)) (kn count (k + 1)) (z))) (z)) (z)) (z)) (z)) (z)) (z)) (z)) (z)) (cond (fits IntKind.i64 (k + 1)) (kn count (k + 1)) (z))) (z)) (z)) (z)) (z)) (k0 count)
def s_l05Below_l1 {β : Type} (z : β) (n : Int) (more : Int) (other : Int) (i : Int) (h0 : Nat → Int) (h1 : Nat → Int) : Nat → Int → Int → (Int → β) → β
  | 0, _, _, _ => z
  | m + 1, count, k, k0 => s_l05Below_l1_s z n more other i h0 h1 count k (fun count k => s_l05Below_l1 z n more other i h0 h1 m count k k0) k0

/-- spec.l05Below, loop -/
def s_l05Below_l0_s {β : Type} (z : β) (N : Nat) (n : Int) (more : Int) (other : Int) (h0 : Nat → Int) (h1 : Nat → Int) (count : Int) (i : Int) (kn : Int → Int → β) (k0 : Int → β) : β :=
  cond (decide (i < n)) (s_l05Below_l1 z n more other i h0 h1 N count 0 (fun q11 => cond (fits IntKind.i64 (i + 1)) (kn q11 (i + 1)) (z))) (k0 count)
def s_l05Below_l0 {β : Type} (z : β) (N : Nat) (n : Int) (more : Int) (other : Int) (h0 : Nat → Int) (h1 : Nat → Int) : Nat → Int → Int → (Int → β) → β
  | 0, _, _, _ => z
  | m + 1, count, i, k0 => s_l05Below_l0_s z N n more other h0 h1 count i (fun count i => s_l05Below_l0 z N n more other h0 h1 m count i k0) k0

/-- spec.l05Below -/
def s_l05Below {β : Type} (z : β) (N : Nat) (n : Int) (p : Nat → Int) (q : Nat → Int) (more : Int) (other : Int) (k0 : Int → β) : β :=
  s_l05Below_l0 z N n more other p q N 0 0 (fun q8 => k0 q8)

/-- spec.l05Maslov -/
def s_l05Maslov {β : Type} (z : β) (N : Nat) (g_0 : Int) (g_1 : Nat → Int) (g_2 : Nat → Int) (x : Nat → Int) (marks : Nat → Int) (k0 : Int → β) : β :=
  s_l05Below z N g_0 x x 0 0 (fun q8 => s_l05Below z N g_0 x marks 0 1 (fun q9 => cond (fits IntKind.i64 (q8 - q9)) (s_l05Below z N g_0 marks x 1 0 (fun q10 => cond (fits IntKind.i64 (q8 - q9 - q10)) (s_l05Below z N g_0 marks marks 1 1 (fun q11 => cond (fits IntKind.i64 (q8 - q9 - q10 + q11)) (cond (fits IntKind.i64 (q8 - q9 - q10 + q11 + 1)) (k0 (q8 - q9 - q10 + q11 + 1)) (z)) (z))) (z))) (z)))

/-- spec.l05Alexander -/
def s_l05Alexander {β : Type} (z : β) (N : Nat) (g_0 : Int) (g_1 : Nat → Int) (g_2 : Nat → Int) (x : Nat → Int) (k0 : Int → β) : β :=
  s_l05Maslov z N g_0 g_1 g_2 x g_2 (fun q7 => s_l05Maslov z N g_0 g_1 g_2 x g_1 (fun q8 => cond (fits IntKind.i64 (q7 - q8)) (cond (fits IntKind.i64 (q7 - q8 - g_0)) (cond (fits IntKind.i64 (q7 - q8 - g_0 + 1)) (k0 (q7 - q8 - g_0 + 1)) (z)) (z)) (z)))

/-- spec.AlexanderNumber -/
def s_AlexanderNumber {β : Type} (z : β) (N : Nat) (g_0 : Int) (g_1 : Nat → Int) (g_2 : Nat → Int) (x : Nat → Int) (k0 : Int → Int → β) : β :=
  s_l05Is z N g_0 g_1 g_2 x (fun q7 => cond (!q7) (k0 0 1) (s_l05Alexander z N g_0 g_1 g_2 x (fun q8 => k0 q8 0)))

/-- impl.isOrder, loop -/
def i_isOrder_l0_s4_s {β : Type} (z : β) (n : Int) (h0 : Nat → Int) (seen : Int) (t10 : Int) (kn : Int → Int → β) (k0 : β) (k1 : Int → β) : β :=
  cond (decide (t10 < 8)) (cond (decide (0 ≤ t10) && decide (t10 < (↑8 : Int))) (cond (t10.toNat.blt 8) (cond (decide (n ≤ t10)) (cond (h0 t10.toNat != 0) (k0) (cond (decide (n ≤ h0 t10.toNat)) (k0) (cond (decide (t10 < n)) (cond (decide (0 ≤ h0 t10.toNat) && decide (h0 t10.toNat < (↑64 : Int))) (cond (fits IntKind.i64 (shlI 1 (h0 t10.toNat))) (cond (fits IntKind.i64 (t10 + 1)) (kn (bitI BinOp.or IntKind.i64 seen (shlI 1 (h0 t10.toNat))) (t10 + 1)) (z)) (z)) (z)) (cond (fits IntKind.i64 (t10 + 1)) (kn seen (t10 + 1)) (z))))) (cond (decide (n ≤ h0 t10.toNat)) (k0) (cond (decide (t10 < n)) (cond (decide (0 ≤ h0 t10.toNat) && decide (h0 t10.toNat < (↑64 : Int))) (cond (fits IntKind.i64 (shlI 1 (h0 t10.toNat))) (cond (fits IntKind.i64 (t10 + 1)) (kn (bitI BinOp.or IntKind.i64 seen (shlI 1 (h0 t10.toNat))) (t10 + 1)) (z)) (z)) (z)) (cond (fits IntKind.i64 (t10 + 1)) (kn seen (t10 + 1)) (z))))) (z)) (z)) (k1 seen)
def i_isOrder_l0_s4 {β : Type} (z : β) (n : Int) (h0 : Nat → Int) : Nat → Int → Int → β → (Int → β) → β
  | 0, _, _, _, _ => z
  | m + 1, seen, t10, k0, k1 => i_isOrder_l0_s4_s z n h0 seen t10 (fun seen t10 => i_isOrder_l0_s4 z n h0 m seen t10 k0 k1) k0 k1

/-- impl.isOrder -/
def i_isOrder_s4 {β : Type} (z : β) (N : Nat) (n : Int) (h0 : Nat → Int) (k0 : Bool → β) : β :=
  i_isOrder_l0_s4 z n h0 N 0 0 (k0 false) (fun q5 => cond (decide (0 ≤ n) && decide (n < (↑64 : Int))) (cond (fits IntKind.i64 (shlI 1 n)) (cond (fits IntKind.i64 (shlI 1 n - 1)) (k0 (q5 == shlI 1 n - 1)) (z)) (z)) (z))

/-- (impl.Grid).isState -/
def i_Grid_isState {β : Type} (z : β) (N : Nat) (g_0 : Int) (g_1 : Nat → Int) (g_2 : Nat → Int) (x : Nat → Int) (k0 : Bool → β) : β :=
  i_Grid_n z N g_0 g_1 g_2 (i_isOrder_s4 z N g_0 x (fun q7 => k0 q7))

/-- impl.IsState -/
def i_IsState {β : Type} (z : β) (N : Nat) (g_0 : Int) (g_1 : Nat → Int) (g_2 : Nat → Int) (x : Nat → Int) (k0 : Bool → β) : β :=
  i_IsGrid z N g_0 g_1 g_2 (fun q7 => cond (q7) (i_Grid_isState z N g_0 g_1 g_2 x (fun q8 => k0 q8)) (k0 false))

/-- impl.pairsBelow$1 -/
def i_pairsBelow_1 {β : Type} (z : β) (N : Nat) (k : Int) (half : Bool) (k0 : Int → β) : β :=
  cond (half) (cond (fits IntKind.i64 (2 * k)) (cond (fits IntKind.i64 (2 * k + 1)) (k0 (2 * k + 1)) (z)) (z)) (cond (fits IntKind.i64 (2 * k)) (k0 (2 * k)) (z))

/-- impl.pairsBelow, loop -/
def i_pairsBelow_l1_s {β : Type} (z : β) (N : Nat) (n : Int) (shifted : Bool) (other : Bool) (i : Int) (t15 : Int) (t16 : Int) (t19 : Int) (h0 : Nat → Int) (h1 : Nat → Int) (many : Int) (t20 : Int) (kn : Int → Int → β) (k0 : Int → β) : β :=
  cond (decide (t20 < t19)) (i_pairsBelow_1 z N i shifted (fun q15 => i_pairsBelow_1 z N t20 other (fun q16 => cond (decide (q15 < q16)) (cond (decide (0 ≤ i) && decide (i < (↑8 : Int))) (cond (i.toNat.blt 8) (i_pairsBelow_1 z N (h0 i.toNat) shifted (fun q17 => cond (decide (0 ≤ t20) && decide (t20 < (↑8 : Int))) (cond (t20.toNat.blt 8) (i_pairsBelow_1 z N (h1 t20.toNat) other (fun q18 => cond (decide (q17 < q18)) (cond (fits IntKind.i64 (many + 1)) (cond (fits IntKind.i64 (t20 + 1)) (kn (many + 1) (t20 + 1)) (z)) (z)) (cond (fits IntKind.i64 (t20 + 1)) (kn many (t20 + 1)) (z)))) (z)) (z))) (z)) (z)) (cond (fits IntKind.i64 (t20 + 1)) (kn many (t20 + 1)) (z))))) (k0 many)
def i_pairsBelow_l1 {β : Type} (z : β) (N : Nat) (n : Int) (shifted : Bool) (other : Bool) (i : Int) (t15 : Int) (t16 : Int) (t19 : Int) (h0 : Nat → Int) (h1 : Nat → Int) : Nat → Int → Int → (Int → β) → β
  | 0, _, _, _ => z
  | m + 1, many, t20, k0 => i_pairsBelow_l1_s z N n shifted other i t15 t16 t19 h0 h1 many t20 (fun many t20 => i_pairsBelow_l1 z N n shifted other i t15 t16 t19 h0 h1 m many t20 k0) k0

/-- impl.pairsBelow, loop -/
def i_pairsBelow_l0_s {β : Type} (z : β) (N : Nat) (n : Int) (shifted : Bool) (other : Bool) (t15 : Int) (h0 : Nat → Int) (h1 : Nat → Int) (many : Int) (t16 : Int) (kn : Int → Int → β) (k0 : Int → β) : β :=
  cond (decide (t16 < t15)) (i_pairsBelow_l1 z N n shifted other t16 t15 t16 n h0 h1 N many 0 (fun q12 => cond (fits IntKind.i64 (t16 + 1)) (kn q12 (t16 + 1)) (z))) (k0 many)
def i_pairsBelow_l0 {β : Type} (z : β) (N : Nat) (n : Int) (shifted : Bool) (other : Bool) (t15 : Int) (h0 : Nat → Int) (h1 : Nat → Int) : Nat → Int → Int → (Int → β) → β
  | 0, _, _, _ => z
  | m + 1, many, t16, k0 => i_pairsBelow_l0_s z N n shifted other t15 h0 h1 many t16 (fun many t16 => i_pairsBelow_l0 z N n shifted other t15 h0 h1 m many t16 k0) k0

/-- impl.pairsBelow -/
def i_pairsBelow {β : Type} (z : β) (N : Nat) (n : Int) (p : Nat → Int) (shifted : Bool) (q : Nat → Int) (other : Bool) (k0 : Int → β) : β :=
  i_pairsBelow_l0 z N n shifted other n p q N 0 0 (fun q8 => k0 q8)

/-- (impl.Grid).maslov -/
def i_Grid_maslov {β : Type} (z : β) (N : Nat) (g_0 : Int) (g_1 : Nat → Int) (g_2 : Nat → Int) (x : Nat → Int) (marks : Nat → Int) (k0 : Int → β) : β :=
  i_Grid_n z N g_0 g_1 g_2 (i_pairsBelow z N g_0 x false x false (fun q8 => i_pairsBelow z N g_0 x false marks true (fun q9 => cond (fits IntKind.i64 (q8 - q9)) (i_pairsBelow z N g_0 marks true x false (fun q10 => cond (fits IntKind.i64 (q8 - q9 - q10)) (i_pairsBelow z N g_0 marks true marks true (fun q11 => cond (fits IntKind.i64 (q8 - q9 - q10 + q11)) (cond (fits IntKind.i64 (q8 - q9 - q10 + q11 + 1)) (k0 (q8 - q9 - q10 + q11 + 1)) (z)) (z))) (z))) (z))))

/-- (impl.Grid).gradeOf -/
def i_Grid_gradeOf {β : Type} (z : β) (N : Nat) (g_0 : Int) (g_1 : Nat → Int) (g_2 : Nat → Int) (x : Nat → Int) (k0 : (Nat → Int) → β) : β :=
  i_Grid_maslov z N g_0 g_1 g_2 x g_2 (fun q7 => i_Grid_maslov z N g_0 g_1 g_2 x g_1 (fun q8 => cond (fits IntKind.i64 (q7 - q8)) (cond (fits IntKind.i64 (q7 - q8 - g_0)) (cond (fits IntKind.i64 (q7 - q8 - g_0 + 1)) (k0 (upd (upd (fun (x : Nat) => 0) 0 (q7 - q8 - g_0 + 1)) 1 q7)) (z)) (z)) (z)))

/-- impl.AlexanderNumber$1 -/
def i_AlexanderNumber_1 {β : Type} (z : β) (N : Nat) (g_0 : Int) (g_1 : Nat → Int) (g_2 : Nat → Int) (x : Nat → Int) (k0 : Int → β) : β :=
  i_Grid_gradeOf z N g_0 g_1 g_2 x (fun q7 => k0 (q7 0))

/-- impl.stated[int64] -/
def i_stated_int64 {β : Type} (z : β) (N : Nat) (g_0 : Int) (g_1 : Nat → Int) (g_2 : Nat → Int) (x : Nat → Int) (k0 : Int → Int → β) : β :=
  i_IsState z N g_0 g_1 g_2 x (fun q7 => cond (!q7) (k0 0 1) (i_AlexanderNumber_1 z N g_0 g_1 g_2 x (fun q8 => k0 q8 0)))

/-- impl.AlexanderNumber -/
def i_AlexanderNumber {β : Type} (z : β) (N : Nat) (g_0 : Int) (g_1 : Nat → Int) (g_2 : Nat → Int) (x : Nat → Int) (k0 : Int → Int → β) : β :=
  i_stated_int64 z N g_0 g_1 g_2 x (fun q7 q8 => k0 q7 q8)

/-- laws.FnExactAlexanderNumber -/
def w_FnExactAlexanderNumber {β : Type} (z : β) (N : Nat) (aG_0 : Int) (aG_1 : Nat → Int) (aG_2 : Nat → Int) (aX : Nat → Int) (k0 : Bool → β) : β :=
  w_toGrid z N aG_0 aG_1 aG_2 (fun q7 q8 => w_toState z N aX (fun q9 => s_AlexanderNumber z N aG_0 q7 q8 q9 (fun q10 q11 => w_toGrid z N aG_0 aG_1 aG_2 (fun q12 q13 => w_toState z N aX (fun q14 => i_AlexanderNumber z N aG_0 q12 q13 q14 (fun q15 q16 => cond (q15 != q10) (k0 false) (cond (q16 != q11) (k0 false) (k0 true))))))))
end Go.AM

set_option maxRecDepth 100000
namespace Go.AM
/-- spec.l01Rolled, loop -/
def s_l01Rolled_l0_s {β : Type} (z : β) (t1 : Int) (t2 : Int) (t7 : Int) (h0_0 : Int) (h0_1 : Nat → Int) (h0_2 : Nat → Int) (h1_0 : Int) (h1_1 : Nat → Int) (h1_2 : Nat → Int) (h2_0 : Int) (t9 : Int) (h2_1 : Nat → Int) (h2_2 : Nat → Int) (kn : Int → (Nat → Int) → (Nat → Int) → β) (k0 : (Nat → Int) → (Nat → Int) → β) : β :=
  cond (decide (t9 < t7)) (cond (fits IntKind.i64 (t9 + t2)) (cond (!t7 == 0) (cond (fits IntKind.i64 ((t9 + t2).tmod t7 + t7)) (cond (!t7 == 0) (cond (decide (0 ≤ t9) && decide (t9 < (↑8 : Int))) (cond (t9.toNat.blt 8) (cond (fits IntKind.i64 (h0_1 t9.toNat + t1)) (cond (!t7 == 0) (cond (fits IntKind.i64 ((h0_1 t9.toNat + t1).tmod t7 + t7)) (cond (!t7 == 0) (cond (decide (0 ≤ ((t9 + t2).tmod t7 + t7).tmod t7) && decide (((t9 + t2).tmod t7 + t7).tmod t7 < (↑8 : Int))) (cond ((((t9 + t2).tmod t7 + t7).tmod t7).toNat.blt 8) (cond (decide (0 ≤ t9) && decide (t9 < (↑8 : Int))) (cond (t9.toNat.blt 8) (cond (fits IntKind.i64 (h0_2 t9.toNat + t1)) (cond (!t7 == 0) (cond (fits IntKind.i64 ((h0_2 t9.toNat + t1).tmod t7 + t7)) (cond (!t7 == 0) (cond (decide (0 ≤ ((t9 + t2).tmod t7 + t7).tmod t7) && decide (((t9 + t2).tmod t7 + t7).tmod t7 < (↑8 : Int))) (cond ((((t9 + t2).tmod t7 + t7).tmod t7).toNat.blt 8) (cond (fits IntKind.i64 (t9 + 1)) (kn (t9 + 1) (upd h2_1 (((t9 + t2).tmod t7 + t7).tmod t7).toNat (wrapU IntKind.u8 (((h0_1 t9.toNat + t1).tmod t7 + t7).tmod t7))) (upd h2_2 (((t9 + t2).tmod t7 + t7).tmod t7).toNat (wrapU IntKind.u8 (((h0_2 t9.toNat + t1).tmod t7 + t7).tmod t7)))) (z)) (z)) (z)) (z)) (z)) (z)) (z)) (z)) (z)) (z)) (z)) (z)) (z)) (z)) (z)) (z)) (z)) (z)) (z)) (z)) (z)) (k0 h2_1 h2_2)
def s_l01Rolled_l0 {β : Type} (z : β) (t1 : Int) (t2 : Int) (t7 : Int) (h0_0 : Int) (h0_1 : Nat → Int) (h0_2 : Nat → Int) (h1_0 : Int) (h1_1 : Nat → Int) (h1_2 : Nat → Int) (h2_0 : Int) : Nat → Int → (Nat → Int) → (Nat → Int) → ((Nat → Int) → (Nat → Int) → β) → β
  | 0, _, _, _, _ => z
  | m + 1, t9, h2_1, h2_2, k0 => s_l01Rolled_l0_s z t1 t2 t7 h0_0 h0_1 h0_2 h1_0 h1_1 h1_2 h2_0 t9 h2_1 h2_2 (fun t9 h2_1 h2_2 => s_l01Rolled_l0 z t1 t2 t7 h0_0 h0_1 h0_2 h1_0 h1_1 h1_2 h2_0 m t9 h2_1 h2_2 k0) k0

/-- spec.l01Rolled -/
def s_l01Rolled {β : Type} (z : β) (N : Nat) (g_0 : Int) (g_1 : Nat → Int) (g_2 : Nat → Int) (a1 : Int) (a2 : Int) (k0 : (Nat → Int) → (Nat → Int) → β) : β :=
  s_l01Rolled_l0 z a1 a2 g_0 g_0 g_1 g_2 0 (fun (x : Nat) => 0) (fun (x : Nat) => 0) g_0 N 0 (fun (x : Nat) => 0) (fun (x : Nat) => 0) (fun q8 q9 => k0 q8 q9)

/-- spec.ShiftGrid -/
def s_ShiftGrid {β : Type} (z : β) (N : Nat) (g_0 : Int) (g_1 : Nat → Int) (g_2 : Nat → Int) (v : Int) (u : Int) (k0 : Int → (Nat → Int) → (Nat → Int) → Int → β) : β :=
  s_l01Is z N g_0 g_1 g_2 (fun q8 => cond (!q8) (k0 0 (fun (x : Nat) => 0) (fun (x : Nat) => 0) 1) (s_l01In z N v (-100) 100 (fun q9 => cond (!q9) (k0 0 (fun (x : Nat) => 0) (fun (x : Nat) => 0) 2) (s_l01In z N u (-100) 100 (fun q10 => cond (!q10) (k0 0 (fun (x : Nat) => 0) (fun (x : Nat) => 0) 2) (s_l01Rolled z N g_0 g_1 g_2 v u (fun q11 q12 => k0 g_0 q11 q12 0)))))))

/-- (impl.Grid).shift$1 -/
def i_Grid_shift_1 {β : Type} (z : β) (N : Nat) (i : Int) (r_ : Int) (h0 : Int) (h1_0 : Int) (h1_1 : Nat → Int) (h1_2 : Nat → Int) (h2 : Int) (k0 : Int → Int → β) : β :=
  cond (fits IntKind.i64 (i + h0)) (i_Grid_n z N h1_0 h1_1 h1_2 (cond (!h1_0 == 0) (cond (fits IntKind.i64 (r_ + h2)) (i_Grid_n z N h1_0 h1_1 h1_2 (cond (!h1_0 == 0) (k0 ((i + h0).tmod h1_0) ((r_ + h2).tmod h1_0)) (z))) (z)) (z))) (z)

/-- (impl.Grid).led, loop -/
def i_Grid_led_l0_s3_s {β : Type} (z : β) (N : Nat) (t22 : Int) (h0 : Int) (h1_0 : Int) (h1_1 : Nat → Int) (h1_2 : Nat → Int) (h2 : Int) (h3_0 : Int) (h3_1 : Nat → Int) (h3_2 : Nat → Int) (h4_0 : Int) (h4_1 : Nat → Int) (h4_2 : Nat → Int) (h5_0 : Int) (t23 : Int) (h5_1 : Nat → Int) (h5_2 : Nat → Int) (kn : Int → (Nat → Int) → (Nat → Int) → β) (k0 : (Nat → Int) → (Nat → Int) → β) : β :=
  cond (decide (t23 < t22)) (cond (decide (0 ≤ t23) && decide (t23 < (↑8 : Int))) (cond (t23.toNat.blt 8) (i_Grid_shift_1 z N t23 (h3_1 t23.toNat) h0 h1_0 h1_1 h1_2 h2 (fun q20 q21 => cond (decide (0 ≤ q20) && decide (q20 < (↑8 : Int))) (cond (q20.toNat.blt 8) (cond (decide (0 ≤ t23) && decide (t23 < (↑8 : Int))) (cond (t23.toNat.blt 8) (i_Grid_shift_1 z N t23 (h3_2 t23.toNat) h0 h1_0 h1_1 h1_2 h2 (fun q22 q23 => cond (decide (0 ≤ q22) && decide (q22 < (↑8 : Int))) (cond (q22.toNat.blt 8) (cond (fits IntKind.i64 (t23 + 1)) (kn (t23 + 1) (upd h5_1 q22.toNat (wrapU IntKind.u8 q23)) (upd h5_2 q20.toNat (wrapU IntKind.u8 q21))) (z)) (z)) (z))) (z)) (z)) (z)) (z))) (z)) (z)) (k0 h5_1 h5_2)
def i_Grid_led_l0_s3 {β : Type} (z : β) (N : Nat) (t22 : Int) (h0 : Int) (h1_0 : Int) (h1_1 : Nat → Int) (h1_2 : Nat → Int) (h2 : Int) (h3_0 : Int) (h3_1 : Nat → Int) (h3_2 : Nat → Int) (h4_0 : Int) (h4_1 : Nat → Int) (h4_2 : Nat → Int) (h5_0 : Int) : Nat → Int → (Nat → Int) → (Nat → Int) → ((Nat → Int) → (Nat → Int) → β) → β
  | 0, _, _, _, _ => z
  | m + 1, t23, h5_1, h5_2, k0 => i_Grid_led_l0_s3_s z N t22 h0 h1_0 h1_1 h1_2 h2 h3_0 h3_1 h3_2 h4_0 h4_1 h4_2 h5_0 t23 h5_1 h5_2 (fun t23 h5_1 h5_2 => i_Grid_led_l0_s3 z N t22 h0 h1_0 h1_1 h1_2 h2 h3_0 h3_1 h3_2 h4_0 h4_1 h4_2 h5_0 m t23 h5_1 h5_2 k0) k0

/-- (impl.Grid).led, loop -/
def i_Grid_led_l0_s4_s {β : Type} (z : β) (N : Nat) (t22 : Int) (h0 : Int) (h1_0 : Int) (h1_1 : Nat → Int) (h1_2 : Nat → Int) (h2 : Int) (h3_0 : Int) (h3_1 : Nat → Int) (h3_2 : Nat → Int) (h4_0 : Int) (h4_1 : Nat → Int) (h4_2 : Nat → Int) (h5_0 : Int) (t23 : Int) (h5_1 : Nat → Int) (h5_2 : Nat → Int) (kn : Int → (Nat → Int) → (Nat → Int) → β) (k0 : (Nat → Int) → (Nat → Int) → β) : β :=
  cond (decide (t23 < t22)) (cond (decide (0 ≤ t23) && decide (t23 < (↑8 : Int))) (cond (t23.toNat.blt 8) (i_Grid_shift_1 z N t23 (h3_1 t23.toNat) h0 h1_0 h1_1 h1_2 h2 (fun q20 q21 => cond (decide (0 ≤ q20) && decide (q20 < (↑8 : Int))) (cond (q20.toNat.blt 8) (cond (decide (0 ≤ t23) && decide (t23 < (↑8 : Int))) (cond (t23.toNat.blt 8) (i_Grid_shift_1 z N t23 (h3_2 t23.toNat) h0 h1_0 h1_1 h1_2 h2 (fun q22 q23 => cond (decide (0 ≤ q22) && decide (q22 < (↑8 : Int))) (cond (q22.toNat.blt 8) (cond (fits IntKind.i64 (t23 + 1)) (kn (t23 + 1) (upd h5_1 q20.toNat (wrapU IntKind.u8 q21)) (upd h5_2 q22.toNat (wrapU IntKind.u8 q23))) (z)) (z)) (z))) (z)) (z)) (z)) (z))) (z)) (z)) (k0 h5_1 h5_2)
def i_Grid_led_l0_s4 {β : Type} (z : β) (N : Nat) (t22 : Int) (h0 : Int) (h1_0 : Int) (h1_1 : Nat → Int) (h1_2 : Nat → Int) (h2 : Int) (h3_0 : Int) (h3_1 : Nat → Int) (h3_2 : Nat → Int) (h4_0 : Int) (h4_1 : Nat → Int) (h4_2 : Nat → Int) (h5_0 : Int) : Nat → Int → (Nat → Int) → (Nat → Int) → ((Nat → Int) → (Nat → Int) → β) → β
  | 0, _, _, _, _ => z
  | m + 1, t23, h5_1, h5_2, k0 => i_Grid_led_l0_s4_s z N t22 h0 h1_0 h1_1 h1_2 h2 h3_0 h3_1 h3_2 h4_0 h4_1 h4_2 h5_0 t23 h5_1 h5_2 (fun t23 h5_1 h5_2 => i_Grid_led_l0_s4 z N t22 h0 h1_0 h1_1 h1_2 h2 h3_0 h3_1 h3_2 h4_0 h4_1 h4_2 h5_0 m t23 h5_1 h5_2 k0) k0

/-- (impl.Grid).led -/
def i_Grid_led_s2 {β : Type} (z : β) (N : Nat) (g_0 : Int) (g_1 : Nat → Int) (g_2 : Nat → Int) (exchanged : Bool) (h0 : Int) (h1_0 : Int) (h1_1 : Nat → Int) (h1_2 : Nat → Int) (h2 : Int) (k0 : (Nat → Int) → (Nat → Int) → β) : β :=
  cond (exchanged) (i_Grid_n z N g_0 g_1 g_2 (i_Grid_led_l0_s3 z N g_0 h0 h1_0 h1_1 h1_2 h2 g_0 g_1 g_2 0 (fun (x : Nat) => 0) (fun (x : Nat) => 0) g_0 N 0 (fun (x : Nat) => 0) (fun (x : Nat) => 0) (fun q12 q13 => k0 q12 q13))) (i_Grid_n z N g_0 g_1 g_2 (i_Grid_led_l0_s4 z N g_0 h0 h1_0 h1_1 h1_2 h2 g_0 g_1 g_2 0 (fun (x : Nat) => 0) (fun (x : Nat) => 0) g_0 N 0 (fun (x : Nat) => 0) (fun (x : Nat) => 0) (fun q12 q13 => k0 q12 q13)))

/-- (impl.Grid).shift -/
def i_Grid_shift {β : Type} (z : β) (N : Nat) (g_0 : Int) (g_1 : Nat → Int) (g_2 : Nat → Int) (v : Int) (u : Int) (k0 : (Nat → Int) → (Nat → Int) → β) : β :=
  i_Grid_led_s2 z N g_0 g_1 g_2 false u g_0 g_1 g_2 v (fun q8 q9 => k0 q8 q9)

/-- impl.ShiftGrid -/
def i_ShiftGrid {β : Type} (z : β) (N : Nat) (g_0 : Int) (g_1 : Nat → Int) (g_2 : Nat → Int) (v : Int) (u : Int) (k0 : Int → (Nat → Int) → (Nat → Int) → Int → β) : β :=
  i_IsGrid z N g_0 g_1 g_2 (fun q8 => cond (!q8) (k0 0 (fun (x : Nat) => 0) (fun (x : Nat) => 0) 1) (i_within z N v (-100) 100 (fun q9 => cond (!q9) (k0 0 (fun (x : Nat) => 0) (fun (x : Nat) => 0) 2) (i_within z N u (-100) 100 (fun q10 => cond (!q10) (k0 0 (fun (x : Nat) => 0) (fun (x : Nat) => 0) 2) (cond (fits IntKind.i64 (100 * g_0)) (cond (fits IntKind.i64 (v + 100 * g_0)) (cond (!g_0 == 0) (cond (fits IntKind.i64 (100 * g_0)) (cond (fits IntKind.i64 (u + 100 * g_0)) (cond (!g_0 == 0) (i_Grid_shift z N g_0 g_1 g_2 ((v + 100 * g_0).tmod g_0) ((u + 100 * g_0).tmod g_0) (fun q11 q12 => k0 g_0 q11 q12 0)) (z)) (z)) (z)) (z)) (z)) (z)))))))

/-- laws.FnExactShiftGrid -/
def w_FnExactShiftGrid {β : Type} (z : β) (N : Nat) (aG_0 : Int) (aG_1 : Nat → Int) (aG_2 : Nat → Int) (aV : Int) (aU : Int) (k0 : Bool → β) : β :=
  w_toGrid z N aG_0 aG_1 aG_2 (fun q8 q9 => s_ShiftGrid z N aG_0 q8 q9 aV aU (fun q10 q11 q12 q13 => w_toGrid z N aG_0 aG_1 aG_2 (fun q14 q15 => i_ShiftGrid z N aG_0 q14 q15 aV aU (fun q16 q17 q18 q19 => w_eqGrid z N q16 q17 q18 q10 q11 q12 (fun q20 => cond (!q20) (k0 false) (cond (q19 != q13) (k0 false) (k0 true)))))))
end Go.AM

set_option maxRecDepth 100000
namespace Go.AM
/-- spec.l05Marks, loop -/
def s_l05Marks_l0_s {β : Type} (z : β) (n : Int) (left : Int) (bottom : Int) (width : Int) (height : Int) (h0 : Nat → Int) (count : Int) (k : Int) (kn : Int → Int → β) (k0 : Int → β) : β :=
  cond (decide (k < width)) (cond (fits IntKind.i64 (left + k)) (cond (!n == 0) (cond (decide (0 ≤ (left + k).tmod n) && decide ((left + k).tmod n < (↑8 : Int))) (cond (((left + k).tmod n).toNat.blt 8) (cond (fits IntKind.i64 (h0 ((left + k).tmod n).toNat - bottom)) (cond (fits IntKind.i64 (h0 ((left + k).tmod n).toNat - bottom + n)) (cond (!n == 0) (cond (decide ((h0 ((left + k).tmod n).toNat - bottom + n).tmod n < height)) (cond (fits IntKind.i64 (count + 1)) (cond (fits IntKind.i64 (k + 1)) (kn (count + 1) (k + 1)) (z)) (z)) (cond (fits IntKind.i64 (k + 1)) (kn count (k + 1)) (z))) (z)) (z)) (z)) (z)) (z)) (z)) (z)) (k0 count)
def s_l05Marks_l0 {β : Type} (z : β) (n : Int) (left : Int) (bottom : Int) (width : Int) (height : Int) (h0 : Nat → Int) : Nat → Int → Int → (Int → β) → β
  | 0, _, _, _ => z
  | m + 1, count, k, k0 => s_l05Marks_l0_s z n left bottom width height h0 count k (fun count k => s_l05Marks_l0 z n left bottom width height h0 m count k k0) k0

/-- spec.l05Marks -/
def s_l05Marks {β : Type} (z : β) (N : Nat) (n : Int) (marks : Nat → Int) (left : Int) (bottom : Int) (width : Int) (height : Int) (k0 : Int → β) : β :=
  s_l05Marks_l0 z n left bottom width height marks N 0 0 (fun q9 => k0 q9)

/-- spec.l05Rects, loop -/
def s_l05Rects_l1_s {β : Type} (z : β) (N : Nat) (t5 : Int) (t7 : Int) (h0_0 : Int) (h0_1 : Nat → Int) (h0_2 : Nat → Int) (h1 : Nat → Int) (t6_n : Nat) (t6_l : Nat) (t6_c : Nat) (t8 : Int) (h2 : List Int) (kn : Nat → Nat → Nat → Int → (List Int) → β) (k0 : Nat → Nat → Nat → (List Int) → β) : β :=
  cond (decide (t8 < t5)) (cond (decide (0 ≤ t7) && decide (t7 < (↑8 : Int))) (cond (t7.toNat.blt 8) (cond (fits IntKind.i64 (t7 + t8)) (cond (!t5 == 0) (cond (decide (0 ≤ (t7 + t8).tmod t5) && decide ((t7 + t8).tmod t5 < (↑8 : Int))) (cond (((t7 + t8).tmod t5).toNat.blt 8) (cond (fits IntKind.i64 (h1 ((t7 + t8).tmod t5).toNat - h1 t7.toNat)) (cond (fits IntKind.i64 (h1 ((t7 + t8).tmod t5).toNat - h1 t7.toNat + t5)) (cond (!t5 == 0) (s_l05Marks z N t5 h0_1 t7 (h1 t7.toNat) t8 ((h1 ((t7 + t8).tmod t5).toNat - h1 t7.toNat + t5).tmod t5) (fun q15 => s_l05Marks z N t5 h0_2 t7 (h1 t7.toNat) t8 ((h1 ((t7 + t8).tmod t5).toNat - h1 t7.toNat + t5).tmod t5) (fun q16 => cond (t6_n.beq h2.length && true) (cond ((t6_l + 1).ble 1099511627776 && ((t6_l + 1) * 48).ble 1099511627776) (cond ((t6_l + 1).ble t6_c) (cond (t6_n.beq h2.length && (0 + t6_l * 6 + 6).ble h2.length) (cond (fits IntKind.i64 (t8 + 1)) (kn t6_n (t6_l + 1) t6_c (t8 + 1) (List.take (0 + t6_l * 6) h2 ++ (List.map (upd (upd (upd (upd (upd (upd (fun (x : Nat) => 0) 0 t7) 1 (h1 t7.toNat)) 2 t8) 3 ((h1 ((t7 + t8).tmod t5).toNat - h1 t7.toNat + t5).tmod t5)) 4 q15) 5 q16) (List.range 6) ++ List.drop (0 + t6_l * 6 + 6) h2))) (z)) (z)) (cond ((t6_l * 6).beq h2.length) (cond (fits IntKind.i64 (t8 + 1)) (kn ((h2 ++ List.map (upd (upd (upd (upd (upd (upd (fun (x : Nat) => 0) 0 t7) 1 (h1 t7.toNat)) 2 t8) 3 ((h1 ((t7 + t8).tmod t5).toNat - h1 t7.toNat + t5).tmod t5)) 4 q15) 5 q16) (List.range 6)).length) (t6_l + 1) (t6_l + 1) (t8 + 1) (h2 ++ List.map (upd (upd (upd (upd (upd (upd (fun (x : Nat) => 0) 0 t7) 1 (h1 t7.toNat)) 2 t8) 3 ((h1 ((t7 + t8).tmod t5).toNat - h1 t7.toNat + t5).tmod t5)) 4 q15) 5 q16) (List.range 6))) (z)) (z))) (z)) (z)))) (z)) (z)) (z)) (z)) (z)) (z)) (z)) (z)) (z)) (k0 t6_n t6_l t6_c h2)
def s_l05Rects_l1 {β : Type} (z : β) (N : Nat) (t5 : Int) (t7 : Int) (h0_0 : Int) (h0_1 : Nat → Int) (h0_2 : Nat → Int) (h1 : Nat → Int) : Nat → Nat → Nat → Nat → Int → (List Int) → (Nat → Nat → Nat → (List Int) → β) → β
  | 0, _, _, _, _, _, _ => z
  | m + 1, t6_n, t6_l, t6_c, t8, h2, k0 => s_l05Rects_l1_s z N t5 t7 h0_0 h0_1 h0_2 h1 t6_n t6_l t6_c t8 h2 (fun t6_n t6_l t6_c t8 h2 => s_l05Rects_l1 z N t5 t7 h0_0 h0_1 h0_2 h1 m t6_n t6_l t6_c t8 h2 k0) k0

/-- spec.l05Rects, loop -/
def s_l05Rects_l0_s {β : Type} (z : β) (N : Nat) (t5 : Int) (h0_0 : Int) (h0_1 : Nat → Int) (h0_2 : Nat → Int) (h1 : Nat → Int) (t6_n : Nat) (t6_l : Nat) (t6_c : Nat) (t7 : Int) (h2 : List Int) (kn : Nat → Nat → Nat → Int → (List Int) → β) (k0 : Nat → Nat → Nat → (List Int) → β) : β :=
  cond (decide (t7 < t5)) (s_l05Rects_l1 z N t5 t7 h0_0 h0_1 h0_2 h1 N t6_n t6_l t6_c 1 h2 (fun q14 q15 q16 q17 => cond (fits IntKind.i64 (t7 + 1)) (kn q14 q15 q16 (t7 + 1) q17) (z))) (k0 t6_n t6_l t6_c h2)
def s_l05Rects_l0 {β : Type} (z : β) (N : Nat) (t5 : Int) (h0_0 : Int) (h0_1 : Nat → Int) (h0_2 : Nat → Int) (h1 : Nat → Int) : Nat → Nat → Nat → Nat → Int → (List Int) → (Nat → Nat → Nat → (List Int) → β) → β
  | 0, _, _, _, _, _, _ => z
  | m + 1, t6_n, t6_l, t6_c, t7, h2, k0 => s_l05Rects_l0_s z N t5 h0_0 h0_1 h0_2 h1 t6_n t6_l t6_c t7 h2 (fun t6_n t6_l t6_c t7 h2 => s_l05Rects_l0 z N t5 h0_0 h0_1 h0_2 h1 m t6_n t6_l t6_c t7 h2 k0) k0

/-- spec.l05Rects -/
def s_l05Rects {β : Type} (z : β) (N : Nat) (g_0 : Int) (g_1 : Nat → Int) (g_2 : Nat → Int) (a1 : Nat → Int) (k0 : Nat → Nat → Nat → (List Int) → β) : β :=
  s_l05Rects_l0 z N g_0 g_0 g_1 g_2 a1 N 0 0 0 0 (List.replicate 0 0) (fun q7 q8 q9 q10 => k0 q7 q8 q9 q10)

/-- spec.RectanglesFrom -/
def s_RectanglesFrom {β : Type} (z : β) (N : Nat) (g_0 : Int) (g_1 : Nat → Int) (g_2 : Nat → Int) (x : Nat → Int) (k0 : Int → β) (k1 : Nat → Nat → Nat → Int → (List Int) → β) : β :=
  s_l05Is z N g_0 g_1 g_2 x (fun q7 => cond (!q7) (k0 1) (s_l05Rects z N g_0 g_1 g_2 x (fun q8 q9 q10 q11 => k1 q8 q9 q10 0 q11)))

/-- (impl.Grid).rectangle$1 -/
def i_Grid_rectangle_1 {β : Type} (z : β) (N : Nat) (rows : Nat → Int) (k : Int) (h0 : Int) (h1 : Int) (h2 : Int) (k0 : Int → β) : β :=
  cond (fits IntKind.i64 (h0 + k)) (cond (!h1 == 0) (cond (decide (0 ≤ (h0 + k).tmod h1) && decide ((h0 + k).tmod h1 < (↑8 : Int))) (cond (((h0 + k).tmod h1).toNat.blt 8) (cond (fits IntKind.i64 (rows ((h0 + k).tmod h1).toNat - h2)) (cond (fits IntKind.i64 (rows ((h0 + k).tmod h1).toNat - h2 + h1)) (cond (!h1 == 0) (k0 ((rows ((h0 + k).tmod h1).toNat - h2 + h1).tmod h1)) (z)) (z)) (z)) (z)) (z)) (z)) (z)

/-- (impl.Grid).rectangle, loop -/
def i_Grid_rectangle_l0_s {β : Type} (z : β) (N : Nat) (t13 : Int) (t33 : Int) (h0_0 : Int) (h0_1 : Nat → Int) (h0_2 : Nat → Int) (h1 : Nat → Int) (h2 : Int) (h3 : Nat → Int) (h4 : Int) (h5 : Int) (t15 : Bool) (t34 : Int) (h6 : Nat → Int) (kn : Bool → Int → (Nat → Int) → β) (k0 : Bool → (Nat → Int) → β) : β :=
  cond (decide (t34 < t33)) (cond (decide (0 < t34)) (i_Grid_rectangle_1 z N h1 t34 h2 h4 h5 (fun q17 => cond (decide (q17 < t13)) (i_Grid_rectangle_1 z N h0_1 t34 h2 h4 h5 (fun q18 => cond (decide (q18 < t13)) (cond (fits IntKind.i64 (h6 4 + 1)) (i_Grid_rectangle_1 z N h0_2 t34 h2 h4 h5 (fun q19 => cond (decide (q19 < t13)) (cond (fits IntKind.i64 (upd h6 4 (h6 4 + 1) 5 + 1)) (cond (fits IntKind.i64 (t34 + 1)) (kn false (t34 + 1) (upd (upd h6 4 (h6 4 + 1)) 5 (upd h6 4 (h6 4 + 1) 5 + 1))) (z)) (z)) (cond (fits IntKind.i64 (t34 + 1)) (kn false (t34 + 1) (upd h6 4 (h6 4 + 1))) (z)))) (z)) (i_Grid_rectangle_1 z N h0_2 t34 h2 h4 h5 (fun q19 => cond (decide (q19 < t13)) (cond (fits IntKind.i64 (h6 5 + 1)) (cond (fits IntKind.i64 (t34 + 1)) (kn false (t34 + 1) (upd h6 5 (h6 5 + 1))) (z)) (z)) (cond (fits IntKind.i64 (t34 + 1)) (kn false (t34 + 1) h6) (z)))))) (i_Grid_rectangle_1 z N h0_1 t34 h2 h4 h5 (fun q18 => cond (decide (q18 < t13)) (cond (fits IntKind.i64 (h6 4 + 1)) (i_Grid_rectangle_1 z N h0_2 t34 h2 h4 h5 (fun q19 => cond (decide (q19 < t13)) (cond (fits IntKind.i64 (upd h6 4 (h6 4 + 1) 5 + 1)) (cond (fits IntKind.i64 (t34 + 1)) (kn t15 (t34 + 1) (upd (upd h6 4 (h6 4 + 1)) 5 (upd h6 4 (h6 4 + 1) 5 + 1))) (z)) (z)) (cond (fits IntKind.i64 (t34 + 1)) (kn t15 (t34 + 1) (upd h6 4 (h6 4 + 1))) (z)))) (z)) (i_Grid_rectangle_1 z N h0_2 t34 h2 h4 h5 (fun q19 => cond (decide (q19 < t13)) (cond (fits IntKind.i64 (h6 5 + 1)) (cond (fits IntKind.i64 (t34 + 1)) (kn t15 (t34 + 1) (upd h6 5 (h6 5 + 1))) (z)) (z)) (cond (fits IntKind.i64 (t34 + 1)) (kn t15 (t34 + 1) h6) (z)))))))) (i_Grid_rectangle_1 z N h0_1 t34 h2 h4 h5 (fun q17 => cond (decide (q17 < t13)) (cond (fits IntKind.i64 (h6 4 + 1)) (i_Grid_rectangle_1 z N h0_2 t34 h2 h4 h5 (fun q18 => cond (decide (q18 < t13)) (cond (fits IntKind.i64 (upd h6 4 (h6 4 + 1) 5 + 1)) (cond (fits IntKind.i64 (t34 + 1)) (kn t15 (t34 + 1) (upd (upd h6 4 (h6 4 + 1)) 5 (upd h6 4 (h6 4 + 1) 5 + 1))) (z)) (z)) (cond (fits IntKind.i64 (t34 + 1)) (kn t15 (t34 + 1) (upd h6 4 (h6 4 + 1))) (z)))) (z)) (i_Grid_rectangle_1 z N h0_2 t34 h2 h4 h5 (fun q18 => cond (decide (q18 < t13)) (cond (fits IntKind.i64 (h6 5 + 1)) (cond (fits IntKind.i64 (t34 + 1)) (kn t15 (t34 + 1) (upd h6 5 (h6 5 + 1))) (z)) (z)) (cond (fits IntKind.i64 (t34 + 1)) (kn t15 (t34 + 1) h6) (z))))))) (k0 t15 h6)
def i_Grid_rectangle_l0 {β : Type} (z : β) (N : Nat) (t13 : Int) (t33 : Int) (h0_0 : Int) (h0_1 : Nat → Int) (h0_2 : Nat → Int) (h1 : Nat → Int) (h2 : Int) (h3 : Nat → Int) (h4 : Int) (h5 : Int) : Nat → Bool → Int → (Nat → Int) → (Bool → (Nat → Int) → β) → β
  | 0, _, _, _, _ => z
  | m + 1, t15, t34, h6, k0 => i_Grid_rectangle_l0_s z N t13 t33 h0_0 h0_1 h0_2 h1 h2 h3 h4 h5 t15 t34 h6 (fun t15 t34 h6 => i_Grid_rectangle_l0 z N t13 t33 h0_0 h0_1 h0_2 h1 h2 h3 h4 h5 m t15 t34 h6 k0) k0

/-- (impl.Grid).rectangle -/
def i_Grid_rectangle {β : Type} (z : β) (N : Nat) (g_0 : Int) (g_1 : Nat → Int) (g_2 : Nat → Int) (a1 : Nat → Int) (a2 : Int) (a3 : Int) (k0 : (Nat → Int) → Bool → β) : β :=
  i_Grid_n z N g_0 g_1 g_2 (cond (decide (0 ≤ a2) && decide (a2 < (↑8 : Int))) (cond (a2.toNat.blt 8) (i_Grid_rectangle_1 z N a1 a3 a2 g_0 (a1 a2.toNat) (fun q9 => i_Grid_rectangle_l0 z N q9 a3 g_0 g_1 g_2 a1 a2 (fun (x : Nat) => 0) g_0 (a1 a2.toNat) N true 0 (upd (upd (upd (upd (upd (upd (fun (x : Nat) => 0) 0 a2) 1 (a1 a2.toNat)) 2 a3) 3 q9) 4 0) 5 0) (fun q10 q11 => k0 q11 q10))) (z)) (z))

/-- (impl.Grid).rectangles, loop -/
def i_Grid_rectangles_l1_s {β : Type} (z : β) (N : Nat) (emptyAlone : Bool) (left : Int) (t14 : Int) (t15 : Int) (h0_0 : Int) (h0_1 : Nat → Int) (h0_2 : Nat → Int) (h1 : Nat → Int) (out_n : Nat) (out_l : Nat) (out_c : Nat) (width : Int) (h2 : List Int) (kn : Nat → Nat → Nat → Int → (List Int) → β) (k0 : Nat → Nat → Nat → (List Int) → β) : β :=
  i_Grid_n z N h0_0 h0_1 h0_2 (cond (decide (width < h0_0)) (i_Grid_rectangle z N h0_0 h0_1 h0_2 h1 left width (fun q17 q18 => cond (q18) (cond (out_n.beq h2.length && true) (cond ((out_l + 1).ble 1099511627776 && ((out_l + 1) * 48).ble 1099511627776) (cond ((out_l + 1).ble out_c) (cond (out_n.beq h2.length && (0 + out_l * 6 + 6).ble h2.length) (cond (fits IntKind.i64 (width + 1)) (kn out_n (out_l + 1) out_c (width + 1) (List.take (0 + out_l * 6) h2 ++ (List.map q17 (List.range 6) ++ List.drop (0 + out_l * 6 + 6) h2))) (z)) (z)) (cond ((out_l * 6).beq h2.length) (cond (fits IntKind.i64 (width + 1)) (kn ((h2 ++ List.map q17 (List.range 6)).length) (out_l + 1) (out_l + 1) (width + 1) (h2 ++ List.map q17 (List.range 6))) (z)) (z))) (z)) (z)) (cond (!emptyAlone) (cond (out_n.beq h2.length && true) (cond ((out_l + 1).ble 1099511627776 && ((out_l + 1) * 48).ble 1099511627776) (cond ((out_l + 1).ble out_c) (cond (out_n.beq h2.length && (0 + out_l * 6 + 6).ble h2.length) (cond (fits IntKind.i64 (width + 1)) (kn out_n (out_l + 1) out_c (width + 1) (List.take (0 + out_l * 6) h2 ++ (List.map q17 (List.range 6) ++ List.drop (0 + out_l * 6 + 6) h2))) (z)) (z)) (cond ((out_l * 6).beq h2.length) (cond (fits IntKind.i64 (width + 1)) (kn ((h2 ++ List.map q17 (List.range 6)).length) (out_l + 1) (out_l + 1) (width + 1) (h2 ++ List.map q17 (List.range 6))) (z)) (z))) (z)) (z)) (cond (fits IntKind.i64 (width + 1)) (kn out_n out_l out_c (width + 1) h2) (z))))) (k0 out_n out_l out_c h2))
def i_Grid_rectangles_l1 {β : Type} (z : β) (N : Nat) (emptyAlone : Bool) (left : Int) (t14 : Int) (t15 : Int) (h0_0 : Int) (h0_1 : Nat → Int) (h0_2 : Nat → Int) (h1 : Nat → Int) : Nat → Nat → Nat → Nat → Int → (List Int) → (Nat → Nat → Nat → (List Int) → β) → β
  | 0, _, _, _, _, _, _ => z
  | m + 1, out_n, out_l, out_c, width, h2, k0 => i_Grid_rectangles_l1_s z N emptyAlone left t14 t15 h0_0 h0_1 h0_2 h1 out_n out_l out_c width h2 (fun out_n out_l out_c width h2 => i_Grid_rectangles_l1 z N emptyAlone left t14 t15 h0_0 h0_1 h0_2 h1 m out_n out_l out_c width h2 k0) k0

/-- (impl.Grid).rectangles, loop -/
def i_Grid_rectangles_l0_s {β : Type} (z : β) (N : Nat) (emptyAlone : Bool) (t14 : Int) (h0_0 : Int) (h0_1 : Nat → Int) (h0_2 : Nat → Int) (h1 : Nat → Int) (out_n : Nat) (out_l : Nat) (out_c : Nat) (t15 : Int) (h2 : List Int) (kn : Nat → Nat → Nat → Int → (List Int) → β) (k0 : Nat → Nat → Nat → (List Int) → β) : β :=
  cond (decide (t15 < t14)) (i_Grid_rectangles_l1 z N emptyAlone t15 t14 t15 h0_0 h0_1 h0_2 h1 N out_n out_l out_c 1 h2 (fun q15 q16 q17 q18 => cond (fits IntKind.i64 (t15 + 1)) (kn q15 q16 q17 (t15 + 1) q18) (z))) (k0 out_n out_l out_c h2)
def i_Grid_rectangles_l0 {β : Type} (z : β) (N : Nat) (emptyAlone : Bool) (t14 : Int) (h0_0 : Int) (h0_1 : Nat → Int) (h0_2 : Nat → Int) (h1 : Nat → Int) : Nat → Nat → Nat → Nat → Int → (List Int) → (Nat → Nat → Nat → (List Int) → β) → β
  | 0, _, _, _, _, _, _ => z
  | m + 1, out_n, out_l, out_c, t15, h2, k0 => i_Grid_rectangles_l0_s z N emptyAlone t14 h0_0 h0_1 h0_2 h1 out_n out_l out_c t15 h2 (fun out_n out_l out_c t15 h2 => i_Grid_rectangles_l0 z N emptyAlone t14 h0_0 h0_1 h0_2 h1 m out_n out_l out_c t15 h2 k0) k0

/-- (impl.Grid).rectangles -/
def i_Grid_rectangles {β : Type} (z : β) (N : Nat) (g_0 : Int) (g_1 : Nat → Int) (g_2 : Nat → Int) (x : Nat → Int) (emptyAlone : Bool) (k0 : Nat → Nat → Nat → (List Int) → β) : β :=
  i_Grid_n z N g_0 g_1 g_2 (i_Grid_rectangles_l0 z N emptyAlone g_0 g_0 g_1 g_2 x N 0 0 0 0 (List.replicate 0 0) (fun q8 q9 q10 q11 => k0 q8 q9 q10 q11))

/-- impl.RectanglesFrom$1 -/
def i_RectanglesFrom_1 {β : Type} (z : β) (N : Nat) (g_0 : Int) (g_1 : Nat → Int) (g_2 : Nat → Int) (x : Nat → Int) (k0 : Nat → Nat → Nat → (List Int) → β) : β :=
  i_Grid_rectangles z N g_0 g_1 g_2 x false (fun q7 q8 q9 q10 => k0 q7 q8 q9 q10)

/-- impl.stated[[]impl.Rectangle] -/
def i_stated_i_Rectangle {β : Type} (z : β) (N : Nat) (g_0 : Int) (g_1 : Nat → Int) (g_2 : Nat → Int) (x : Nat → Int) (k0 : Int → β) (k1 : Nat → Nat → Nat → Int → (List Int) → β) : β :=
  i_IsState z N g_0 g_1 g_2 x (fun q7 => cond (!q7) (k0 1) (i_RectanglesFrom_1 z N g_0 g_1 g_2 x (fun q8 q9 q10 q11 => k1 q8 q9 q10 0 q11)))

/-- impl.RectanglesFrom -/
def i_RectanglesFrom {β : Type} (z : β) (N : Nat) (g_0 : Int) (g_1 : Nat → Int) (g_2 : Nat → Int) (x : Nat → Int) (k0 : Int → β) (k1 : Nat → Nat → Nat → Int → (List Int) → β) : β :=
  i_stated_i_Rectangle z N g_0 g_1 g_2 x (fun q7 => k0 q7) (fun q7 q8 q9 q10 q11 => k1 q7 q8 q9 q10 q11)

/-- laws.eqRectangleS, loop -/
def w_eqRectangleS_l0_s {β : Type} (z : β) (i : Int)  (kn : β) (k0 : β) : β :=
  cond (decide (i < 0)) (z) (k0)
def w_eqRectangleS_l0 {β : Type} (z : β) (i : Int) : Nat → β → β
  | 0, _ => z
  | m + 1, k0 => w_eqRectangleS_l0_s z i (w_eqRectangleS_l0 z i m k0) k0

/-- laws.eqRectangleS -/
def w_eqRectangleS {β : Type} (z : β) (N : Nat)  (k0 : Bool → β) : β :=
  w_eqRectangleS_l0 z 0 N (k0 true)

/-- laws.markRectangleS, loop -/
def w_markRectangleS_l0_s {β : Type} (z : β) (k : Int) (i : Int)  (kn : β) (k0 : β) : β :=
  cond (decide (i < 0)) (z) (k0)
def w_markRectangleS_l0 {β : Type} (z : β) (k : Int) (i : Int) : Nat → β → β
  | 0, _ => z
  | m + 1, k0 => w_markRectangleS_l0_s z k i (w_markRectangleS_l0 z k i m k0) k0

/-- laws.markRectangleS -/
def w_markRectangleS {β : Type} (z : β) (N : Nat) (k : Int) (k0 : β) : β :=
  w_markRectangleS_l0 z k 0 N k0

/-- laws.heldRectangleS, loop -/
def w_heldRectangleS_l0_s {β : Type} (z : β) (t1 : Int) (t5 : Int)  (kn : β) (k0 : β) : β :=
  cond (decide (t5 < 0)) (z) (k0)
def w_heldRectangleS_l0 {β : Type} (z : β) (t1 : Int) (t5 : Int) : Nat → β → β
  | 0, _ => z
  | m + 1, k0 => w_heldRectangleS_l0_s z t1 t5 (w_heldRectangleS_l0 z t1 t5 m k0) k0

/-- laws.heldRectangleS -/
def w_heldRectangleS {β : Type} (z : β) (N : Nat) (a1 : Int) (k0 : β) : β :=
  w_heldRectangleS_l0 z a1 0 N k0

/-- laws.eqRectangleS, loop -/
def w_eqRectangleS_l0_s2_s {β : Type} (z : β) (a_n : Nat) (a_l : Nat) (a_c : Nat) (i : Int) (h0 : List Int)  (kn : β) (k0 : β) : β :=
  cond (a_l.ble 9223372036854775807) (cond (decide (i < (↑a_l : Int))) (cond (a_n.beq h0.length && (decide (0 ≤ i) && decide (i < (↑a_l : Int)))) (cond (a_n.beq h0.length && (i.toNat * 6 + 6).ble h0.length) (z) (z)) (z)) (k0)) (z)
def w_eqRectangleS_l0_s2 {β : Type} (z : β) (a_n : Nat) (a_l : Nat) (a_c : Nat) (i : Int) (h0 : List Int) : Nat → β → β
  | 0, _ => z
  | m + 1, k0 => w_eqRectangleS_l0_s2_s z a_n a_l a_c i h0 (w_eqRectangleS_l0_s2 z a_n a_l a_c i h0 m k0) k0

/-- laws.eqRectangleS -/
def w_eqRectangleS_s2 {β : Type} (z : β) (N : Nat) (a_n : Nat) (a_l : Nat) (a_c : Nat) (h0 : List Int) (k0 : Bool → β) : β :=
  cond (a_l.ble 9223372036854775807) (cond ((↑a_l : Int) != 0) (k0 false) (w_eqRectangleS_l0_s2 z a_n a_l a_c 0 h0 N (k0 true))) (z)

/-- laws.markRectangleS, loop -/
def w_markRectangleS_l0_s2_s {β : Type} (z : β) (a_n : Nat) (a_l : Nat) (a_c : Nat) (k : Int) (i : Int) (h0 : List Int) (kn : Int → Int → (List Int) → β) (k0 : Int → (List Int) → β) : β :=
  cond (a_l.ble 9223372036854775807) (cond (decide (i < (↑a_l : Int))) (cond (a_n.beq h0.length && (decide (0 ≤ i) && decide (i < (↑a_l : Int)))) (cond (a_n.beq h0.length && (addO (i.toNat * 6) 0).blt h0.length) (cond (fits IntKind.i64 (k + 1)) (cond (a_n.beq (h0.set (addO (i.toNat * 6) 0) k).length && (decide (0 ≤ i) && decide (i < (↑a_l : Int)))) (cond (a_n.beq (h0.set (addO (i.toNat * 6) 0) k).length && (addO (i.toNat * 6) 1).blt (h0.set (addO (i.toNat * 6) 0) k).length) (cond (fits IntKind.i64 (k + 1 + 1)) (cond (a_n.beq ((h0.set (addO (i.toNat * 6) 0) k).set (addO (i.toNat * 6) 1) (k + 1)).length && (decide (0 ≤ i) && decide (i < (↑a_l : Int)))) (cond (a_n.beq ((h0.set (addO (i.toNat * 6) 0) k).set (addO (i.toNat * 6) 1) (k + 1)).length && (addO (i.toNat * 6) 2).blt ((h0.set (addO (i.toNat * 6) 0) k).set (addO (i.toNat * 6) 1) (k + 1)).length) (cond (fits IntKind.i64 (k + 1 + 1 + 1)) (cond (a_n.beq (((h0.set (addO (i.toNat * 6) 0) k).set (addO (i.toNat * 6) 1) (k + 1)).set (addO (i.toNat * 6) 2) (k + 1 + 1)).length && (decide (0 ≤ i) && decide (i < (↑a_l : Int)))) (cond (a_n.beq (((h0.set (addO (i.toNat * 6) 0) k).set (addO (i.toNat * 6) 1) (k + 1)).set (addO (i.toNat * 6) 2) (k + 1 + 1)).length && (addO (i.toNat * 6) 3).blt (((h0.set (addO (i.toNat * 6) 0) k).set (addO (i.toNat * 6) 1) (k + 1)).set (addO (i.toNat * 6) 2) (k + 1 + 1)).length) (cond (fits IntKind.i64 (k + 1 + 1 + 1 + 1)) (cond (a_n.beq ((((h0.set (addO (i.toNat * 6) 0) k).set (addO (i.toNat * 6) 1) (k + 1)).set (addO (i.toNat * 6) 2) (k + 1 + 1)).set (addO (i.toNat * 6) 3) (k + 1 + 1 + 1)).length && (decide (0 ≤ i) && decide (i < (↑a_l : Int)))) (cond (a_n.beq ((((h0.set (addO (i.toNat * 6) 0) k).set (addO (i.toNat * 6) 1) (k + 1)).set (addO (i.toNat * 6) 2) (k + 1 + 1)).set (addO (i.toNat * 6) 3) (k + 1 + 1 + 1)).length && (addO (i.toNat * 6) 4).blt ((((h0.set (addO (i.toNat * 6) 0) k).set (addO (i.toNat * 6) 1) (k + 1)).set (addO (i.toNat * 6) 2) (k + 1 + 1)).set (addO (i.toNat * 6) 3) (k + 1 + 1 + 1)).length) (cond (fits IntKind.i64 (k + 1 + 1 + 1 + 1 + 1)) (cond (a_n.beq (((((h0.set (addO (i.toNat * 6) 0) k).set (addO (i.toNat * 6) 1) (k + 1)).set (addO (i.toNat * 6) 2) (k + 1 + 1)).set (addO (i.toNat * 6) 3) (k + 1 + 1 + 1)).set (addO (i.toNat * 6) 4) (k + 1 + 1 + 1 + 1)).length && (decide (0 ≤ i) && decide (i < (↑a_l : Int)))) (cond (a_n.beq (((((h0.set (addO (i.toNat * 6) 0) k).set (addO (i.toNat * 6) 1) (k + 1)).set (addO (i.toNat * 6) 2) (k + 1 + 1)).set (addO (i.toNat * 6) 3) (k + 1 + 1 + 1)).set (addO (i.toNat * 6) 4) (k + 1 + 1 + 1 + 1)).length && (addO (i.toNat * 6) 5).blt (((((h0.set (addO (i.toNat * 6) 0) k).set (addO (i.toNat * 6) 1) (k + 1)).set (addO (i.toNat * 6) 2) (k + 1 + 1)).set (addO (i.toNat * 6) 3) (k + 1 + 1 + 1)).set (addO (i.toNat * 6) 4) (k + 1 + 1 + 1 + 1)).length) (cond (fits IntKind.i64 (k + 1 + 1 + 1 + 1 + 1 + 1)) (cond (fits IntKind.i64 (i + 1)) (kn (k + 1 + 1 + 1 + 1 + 1 + 1) (i + 1) ((((((h0.set (addO (i.toNat * 6) 0) k).set (addO (i.toNat * 6) 1) (k + 1)).set (addO (i.toNat * 6) 2) (k + 1 + 1)).set (addO (i.toNat * 6) 3) (k + 1 + 1 + 1)).set (addO (i.toNat * 6) 4) (k + 1 + 1 + 1 + 1)).set (addO (i.toNat * 6) 5) (k + 1 + 1 + 1 + 1 + 1))) (z)) (z)) (z)) (z)) (z)) (z)) (z)) (z)) (z)) (z)) (z)) (z)) (z)) (z)) (z)) (z)) (z)) (z)) (z)) (k0 k h0)) (z)
def w_markRectangleS_l0_s2 {β : Type} (z : β) (a_n : Nat) (a_l : Nat) (a_c : Nat) : Nat → Int → Int → (List Int) → (Int → (List Int) → β) → β
  | 0, _, _, _, _ => z
  | m + 1, k, i, h0, k0 => w_markRectangleS_l0_s2_s z a_n a_l a_c k i h0 (fun k i h0 => w_markRectangleS_l0_s2 z a_n a_l a_c m k i h0 k0) k0

/-- laws.markRectangleS -/
def w_markRectangleS_s2 {β : Type} (z : β) (N : Nat) (a_n : Nat) (a_l : Nat) (a_c : Nat) (k : Int) (h0 : List Int) (k0 : Int → (List Int) → β) : β :=
  w_markRectangleS_l0_s2 z a_n a_l a_c N k 0 h0 (fun q8 q9 => k0 q8 q9)

/-- laws.heldRectangleS, loop -/
def w_heldRectangleS_l0_s2_s {β : Type} (z : β) (a_n : Nat) (a_l : Nat) (a_c : Nat) (h0 : List Int) (t1 : Int) (t5 : Int) (kn : Int → Int → β) (k0 : β) (k1 : Int → β) : β :=
  cond (a_l.ble 9223372036854775807) (cond (decide (t5 < (↑a_l : Int))) (cond (a_n.beq h0.length && (decide (0 ≤ t5) && decide (t5 < (↑a_l : Int)))) (cond (a_n.beq h0.length && (addO (t5.toNat * 6) 0).blt h0.length) (cond (h0[addO (t5.toNat * 6) 0]?.getD 0 != t1) (k0) (cond (fits IntKind.i64 (t1 + 1)) (cond (a_n.beq h0.length && (decide (0 ≤ t5) && decide (t5 < (↑a_l : Int)))) (cond (a_n.beq h0.length && (addO (t5.toNat * 6) 1).blt h0.length) (cond (h0[addO (t5.toNat * 6) 1]?.getD 0 != t1 + 1) (k0) (cond (fits IntKind.i64 (t1 + 1 + 1)) (cond (a_n.beq h0.length && (decide (0 ≤ t5) && decide (t5 < (↑a_l : Int)))) (cond (a_n.beq h0.length && (addO (t5.toNat * 6) 2).blt h0.length) (cond (h0[addO (t5.toNat * 6) 2]?.getD 0 != t1 + 1 + 1) (k0) (cond (fits IntKind.i64 (t1 + 1 + 1 + 1)) (cond (a_n.beq h0.length && (decide (0 ≤ t5) && decide (t5 < (↑a_l : Int)))) (cond (a_n.beq h0.length && (addO (t5.toNat * 6) 3).blt h0.length) (cond (h0[addO (t5.toNat * 6) 3]?.getD 0 != t1 + 1 + 1 + 1) (k0) (cond (fits IntKind.i64 (t1 + 1 + 1 + 1 + 1)) (cond (a_n.beq h0.length && (decide (0 ≤ t5) && decide (t5 < (↑a_l : Int)))) (cond (a_n.beq h0.length && (addO (t5.toNat * 6) 4).blt h0.length) (cond (h0[addO (t5.toNat * 6) 4]?.getD 0 != t1 + 1 + 1 + 1 + 1) (k0) (cond (fits IntKind.i64 (t1 + 1 + 1 + 1 + 1 + 1)) (cond (a_n.beq h0.length && (decide (0 ≤ t5) && decide (t5 < (↑a_l : Int)))) (cond (a_n.beq h0.length && (addO (t5.toNat * 6) 5).blt h0.length) (cond (h0[addO (t5.toNat * 6) 5]?.getD 0 != t1 + 1 + 1 + 1 + 1 + 1) (k0) (cond (fits IntKind.i64 (t1 + 1 + 1 + 1 + 1 + 1 + 1)) (cond (fits IntKind.i64 (t5 + 1)) (kn (t1 + 1 + 1 + 1 + 1 + 1 + 1) (t5 + 1)) (z)) (z))) (z)) (z)) (z))) (z)) (z)) (z))) (z)) (z)) (z))) (z)) (z)) (z))) (z)) (z)) (z))) (z)) (z)) (k1 t1)) (z)
def w_heldRectangleS_l0_s2 {β : Type} (z : β) (a_n : Nat) (a_l : Nat) (a_c : Nat) (h0 : List Int) : Nat → Int → Int → β → (Int → β) → β
  | 0, _, _, _, _ => z
  | m + 1, t1, t5, k0, k1 => w_heldRectangleS_l0_s2_s z a_n a_l a_c h0 t1 t5 (fun t1 t5 => w_heldRectangleS_l0_s2 z a_n a_l a_c h0 m t1 t5 k0 k1) k0 k1

/-- laws.heldRectangleS -/
def w_heldRectangleS_s2 {β : Type} (z : β) (N : Nat) (a_n : Nat) (a_l : Nat) (a_c : Nat) (a1 : Int) (h0 : List Int) (k0 : Int → β) : β :=
  w_heldRectangleS_l0_s2 z a_n a_l a_c h0 N a1 0 (k0 (-1)) (fun q8 => k0 q8)

/-- laws.eqRectangleS, loop -/
def w_eqRectangleS_l0_s3_s {β : Type} (z : β) (b_n : Nat) (b_l : Nat) (b_c : Nat) (i : Int) (h0 : List Int)  (kn : β) (k0 : β) : β :=
  cond (decide (i < 0)) (z) (k0)
def w_eqRectangleS_l0_s3 {β : Type} (z : β) (b_n : Nat) (b_l : Nat) (b_c : Nat) (i : Int) (h0 : List Int) : Nat → β → β
  | 0, _ => z
  | m + 1, k0 => w_eqRectangleS_l0_s3_s z b_n b_l b_c i h0 (w_eqRectangleS_l0_s3 z b_n b_l b_c i h0 m k0) k0

/-- laws.eqRectangleS -/
def w_eqRectangleS_s3 {β : Type} (z : β) (N : Nat) (b_n : Nat) (b_l : Nat) (b_c : Nat) (h0 : List Int) (k0 : Bool → β) : β :=
  cond (b_l.ble 9223372036854775807) (cond (0 != (↑b_l : Int)) (k0 false) (w_eqRectangleS_l0_s3 z b_n b_l b_c 0 h0 N (k0 true))) (z)

/-- laws.eqRectangle -/
def w_eqRectangle {β : Type} (z : β) (N : Nat) (a : Nat → Int) (b : Nat → Int) (k0 : Bool → β) : β :=
  cond (a 0 != b 0) (k0 false) (cond (a 1 != b 1) (k0 false) (cond (a 2 != b 2) (k0 false) (cond (a 3 != b 3) (k0 false) (cond (a 4 != b 4) (k0 false) (cond (a 5 != b 5) (k0 false) (k0 true))))))

/-- laws.eqRectangleS, loop -/
def w_eqRectangleS_l0_s4_s {β : Type} (z : β) (N : Nat) (a_n : Nat) (a_l : Nat) (a_c : Nat) (b_n : Nat) (b_l : Nat) (b_c : Nat) (h0 : List Int) (h1 : List Int) (i : Int) (kn : Int → β) (k0 : β) (k1 : β) : β :=
  cond (a_l.ble 9223372036854775807) (cond (decide (i < (↑a_l : Int))) (cond (a_n.beq h0.length && (decide (0 ≤ i) && decide (i < (↑a_l : Int)))) (cond (a_n.beq h0.length && (i.toNat * 6 + 6).ble h0.length) (cond (b_n.beq h1.length && (decide (0 ≤ i) && decide (i < (↑b_l : Int)))) (cond (b_n.beq h1.length && (i.toNat * 6 + 6).ble h1.length) (w_eqRectangle z N (fun (j : Nat) => h0[addO (i.toNat * 6) j]?.getD 0) (fun (j : Nat) => h1[addO (i.toNat * 6) j]?.getD 0) (fun q13 => cond (!q13) (k0) (cond (fits IntKind.i64 (i + 1)) (kn (i + 1)) (z)))) (z)) (z)) (z)) (z)) (k1)) (z)
def w_eqRectangleS_l0_s4 {β : Type} (z : β) (N : Nat) (a_n : Nat) (a_l : Nat) (a_c : Nat) (b_n : Nat) (b_l : Nat) (b_c : Nat) (h0 : List Int) (h1 : List Int) : Nat → Int → β → β → β
  | 0, _, _, _ => z
  | m + 1, i, k0, k1 => w_eqRectangleS_l0_s4_s z N a_n a_l a_c b_n b_l b_c h0 h1 i (fun i => w_eqRectangleS_l0_s4 z N a_n a_l a_c b_n b_l b_c h0 h1 m i k0 k1) k0 k1

/-- laws.eqRectangleS -/
def w_eqRectangleS_s4 {β : Type} (z : β) (N : Nat) (a_n : Nat) (a_l : Nat) (a_c : Nat) (b_n : Nat) (b_l : Nat) (b_c : Nat) (h0 : List Int) (h1 : List Int) (k0 : Bool → β) : β :=
  cond (a_l.ble 9223372036854775807) (cond (b_l.ble 9223372036854775807) (cond ((↑a_l : Int) != (↑b_l : Int)) (k0 false) (w_eqRectangleS_l0_s4 z N a_n a_l a_c b_n b_l b_c h0 h1 N 0 (k0 false) (k0 true))) (z)) (z)

/-- laws.FnExactRectanglesFrom -/
def w_FnExactRectanglesFrom {β : Type} (z : β) (N : Nat) (aG_0 : Int) (aG_1 : Nat → Int) (aG_2 : Nat → Int) (a1 : Nat → Int) (k0 : Bool → β) : β :=
  w_toGrid z N aG_0 aG_1 aG_2 (fun q7 q8 => w_toState z N a1 (fun q9 => s_RectanglesFrom z N aG_0 q7 q8 q9 (fun q10 => w_toGrid z N aG_0 aG_1 aG_2 (fun q11 q12 => w_toState z N a1 (fun q13 => i_RectanglesFrom z N aG_0 q11 q12 q13 (fun q14 => w_eqRectangleS z N (fun q15 => cond (!q15) (k0 false) (cond (q14 != q10) (k0 false) (w_markRectangleS z N 1 (w_heldRectangleS z N 1 (w_toGrid z N aG_0 aG_1 aG_2 (fun q16 q17 => w_toState z N a1 (fun q18 => i_RectanglesFrom z N aG_0 q16 q17 q18 (fun q19 => w_eqRectangleS z N (fun q20 => cond (!q20) (k0 false) (cond (q19 != q10) (k0 false) (w_heldRectangleS z N 1 (k0 true))))) (fun q19 q20 q21 q22 q23 => w_eqRectangleS_s2 z N q19 q20 q21 q23 (fun q24 => cond (!q24) (k0 false) (cond (q22 != q10) (k0 false) (w_heldRectangleS z N 1 (k0 true))))))))))))) (fun q14 q15 q16 q17 q18 => w_eqRectangleS_s2 z N q14 q15 q16 q18 (fun q19 => cond (!q19) (k0 false) (cond (q17 != q10) (k0 false) (w_markRectangleS_s2 z N q14 q15 q16 1 q18 (fun q20 q21 => w_heldRectangleS_s2 z N q14 q15 q16 1 q21 (fun q22 => cond (decide (q22 < 0)) (k0 false) (cond (q22 != q20) (k0 false) (w_toGrid z N aG_0 aG_1 aG_2 (fun q23 q24 => w_toState z N a1 (fun q25 => i_RectanglesFrom z N aG_0 q23 q24 q25 (fun q26 => w_eqRectangleS z N (fun q27 => cond (!q27) (k0 false) (cond (q26 != q10) (k0 false) (w_heldRectangleS_s2 z N q14 q15 q16 1 q21 (fun q28 => cond (decide (q28 < 0)) (k0 false) (cond (q28 != q20) (k0 false) (k0 true))))))) (fun q26 q27 q28 q29 q30 => w_eqRectangleS_s2 z N q26 q27 q28 q30 (fun q31 => cond (!q31) (k0 false) (cond (q29 != q10) (k0 false) (w_heldRectangleS_s2 z N q14 q15 q16 1 q21 (fun q32 => cond (decide (q32 < 0)) (k0 false) (cond (q32 != q20) (k0 false) (k0 true)))))))))))))))))))) (fun q10 q11 q12 q13 q14 => w_toGrid z N aG_0 aG_1 aG_2 (fun q15 q16 => w_toState z N a1 (fun q17 => i_RectanglesFrom z N aG_0 q15 q16 q17 (fun q18 => w_eqRectangleS_s3 z N q10 q11 q12 q14 (fun q19 => cond (!q19) (k0 false) (cond (q18 != q13) (k0 false) (w_markRectangleS z N 1 (w_heldRectangleS z N 1 (w_toGrid z N aG_0 aG_1 aG_2 (fun q20 q21 => w_toState z N a1 (fun q22 => i_RectanglesFrom z N aG_0 q20 q21 q22 (fun q23 => w_eqRectangleS_s3 z N q10 q11 q12 q14 (fun q24 => cond (!q24) (k0 false) (cond (q23 != q13) (k0 false) (w_heldRectangleS z N 1 (k0 true))))) (fun q23 q24 q25 q26 q27 => w_eqRectangleS_s4 z N q23 q24 q25 q10 q11 q12 q27 q14 (fun q28 => cond (!q28) (k0 false) (cond (q26 != q13) (k0 false) (w_heldRectangleS z N 1 (k0 true))))))))))))) (fun q18 q19 q20 q21 q22 => w_eqRectangleS_s4 z N q18 q19 q20 q10 q11 q12 q22 q14 (fun q23 => cond (!q23) (k0 false) (cond (q21 != q13) (k0 false) (w_markRectangleS_s2 z N q18 q19 q20 1 q22 (fun q24 q25 => w_heldRectangleS_s2 z N q18 q19 q20 1 q25 (fun q26 => cond (decide (q26 < 0)) (k0 false) (cond (q26 != q24) (k0 false) (w_toGrid z N aG_0 aG_1 aG_2 (fun q27 q28 => w_toState z N a1 (fun q29 => i_RectanglesFrom z N aG_0 q27 q28 q29 (fun q30 => w_eqRectangleS_s3 z N q10 q11 q12 q14 (fun q31 => cond (!q31) (k0 false) (cond (q30 != q13) (k0 false) (w_heldRectangleS_s2 z N q18 q19 q20 1 q25 (fun q32 => cond (decide (q32 < 0)) (k0 false) (cond (q32 != q24) (k0 false) (k0 true))))))) (fun q30 q31 q32 q33 q34 => w_eqRectangleS_s4 z N q30 q31 q32 q10 q11 q12 q34 q14 (fun q35 => cond (!q35) (k0 false) (cond (q33 != q13) (k0 false) (w_heldRectangleS_s2 z N q18 q19 q20 1 q25 (fun q36 => cond (decide (q36 < 0)) (k0 false) (cond (q36 != q24) (k0 false) (k0 true))))))))))))))))))))))
end Go.AM

set_option maxRecDepth 100000
namespace Go.AM
/-- spec.l07Kind -/
def s_l07Kind {β : Type} (z : β) (N : Nat) (g_0 : Int) (g_1 : Nat → Int) (g_2 : Nat → Int) (i : Int) (r_ : Int) (isX : Bool) (k0 : Int → β) : β :=
  cond (decide (0 ≤ i) && decide (i < (↑8 : Int))) (cond (i.toNat.blt 8) (s_l01Row z N g_2 g_0 r_ (fun q9 => cond (!isX) (cond (decide (0 ≤ i) && decide (i < (↑8 : Int))) (cond (i.toNat.blt 8) (s_l01Row z N g_1 g_0 r_ (fun q10 => cond (decide (r_ < g_1 i.toNat)) (cond (decide (i < q10)) (k0 0) (cond (decide (r_ < g_1 i.toNat)) (k0 1) (cond (decide (i < q10)) (k0 2) (k0 3)))) (cond (decide (r_ < g_1 i.toNat)) (k0 1) (cond (decide (i < q10)) (k0 2) (k0 3))))) (z)) (z)) (cond (decide (r_ < g_2 i.toNat)) (cond (decide (i < q9)) (k0 0) (cond (decide (r_ < g_2 i.toNat)) (k0 1) (cond (decide (i < q9)) (k0 2) (k0 3)))) (cond (decide (r_ < g_2 i.toNat)) (k0 1) (cond (decide (i < q9)) (k0 2) (k0 3)))))) (z)) (z)

/-- spec.l07Corners, loop -/
def s_l07Corners_l0_s {β : Type} (z : β) (N : Nat) (h0_0 : Int) (h0_1 : Nat → Int) (h0_2 : Nat → Int) (out_n : Nat) (out_l : Nat) (out_c : Nat) (i : Int) (h1 : List Int) (kn : Nat → Nat → Nat → Int → (List Int) → β) (k0 : Nat → Nat → Nat → (List Int) → β) : β :=
  cond (decide (i < h0_0)) (cond (decide (0 ≤ i) && decide (i < (↑8 : Int))) (cond (i.toNat.blt 8) (cond (decide (0 ≤ i) && decide (i < (↑8 : Int))) (cond (i.toNat.blt 8) (s_l07Kind z N h0_0 h0_1 h0_2 i (h0_1 i.toNat) true (fun q12 => s_l07Kind z N h0_0 h0_1 h0_2 i (h0_2 i.toNat) false (fun q13 => cond (out_n.beq h1.length && true) (cond ((out_l + 2).ble 1099511627776 && ((out_l + 2) * 32).ble 1099511627776) (cond ((out_l + 2).ble out_c) (cond (out_n.beq h1.length && (((0 + out_l * 4) % 4).beq 0 && (0 + out_l * 4 + 8).ble h1.length)) (cond (fits IntKind.i64 (i + 1)) (kn out_n (out_l + 2) out_c (i + 1) (List.take (0 + out_l * 4) h1 ++ (fromTo (List.take 4 (List.take 0 (List.replicate 8 0) ++ ([i, h0_1 i.toNat, q12, bif true then 1 else 0] ++ List.drop 4 (List.replicate 8 0))) ++ ([i, h0_2 i.toNat, q13, bif false then 1 else 0] ++ List.drop 8 (List.take 0 (List.replicate 8 0) ++ ([i, h0_1 i.toNat, q12, bif true then 1 else 0] ++ List.drop 4 (List.replicate 8 0))))) 0 8 ++ List.drop (0 + out_l * 4 + 8) h1))) (z)) (z)) (cond ((out_l * 4).beq h1.length && (h1.length % 4).beq 0) (cond (fits IntKind.i64 (i + 1)) (kn ((h1 ++ fromTo (List.take 4 (List.take 0 (List.replicate 8 0) ++ ([i, h0_1 i.toNat, q12, bif true then 1 else 0] ++ List.drop 4 (List.replicate 8 0))) ++ ([i, h0_2 i.toNat, q13, bif false then 1 else 0] ++ List.drop 8 (List.take 0 (List.replicate 8 0) ++ ([i, h0_1 i.toNat, q12, bif true then 1 else 0] ++ List.drop 4 (List.replicate 8 0))))) 0 8).length) (out_l + 2) (out_l + 2) (i + 1) (h1 ++ fromTo (List.take 4 (List.take 0 (List.replicate 8 0) ++ ([i, h0_1 i.toNat, q12, bif true then 1 else 0] ++ List.drop 4 (List.replicate 8 0))) ++ ([i, h0_2 i.toNat, q13, bif false then 1 else 0] ++ List.drop 8 (List.take 0 (List.replicate 8 0) ++ ([i, h0_1 i.toNat, q12, bif true then 1 else 0] ++ List.drop 4 (List.replicate 8 0))))) 0 8)) (z)) (z))) (z)) (z)))) (z)) (z)) (z)) (z)) (k0 out_n out_l out_c h1)
def s_l07Corners_l0 {β : Type} (z : β) (N : Nat) (h0_0 : Int) (h0_1 : Nat → Int) (h0_2 : Nat → Int) : Nat → Nat → Nat → Nat → Int → (List Int) → (Nat → Nat → Nat → (List Int) → β) → β
  | 0, _, _, _, _, _, _ => z
  | m + 1, out_n, out_l, out_c, i, h1, k0 => s_l07Corners_l0_s z N h0_0 h0_1 h0_2 out_n out_l out_c i h1 (fun out_n out_l out_c i h1 => s_l07Corners_l0 z N h0_0 h0_1 h0_2 m out_n out_l out_c i h1 k0) k0

/-- spec.l07Corners -/
def s_l07Corners {β : Type} (z : β) (N : Nat) (g_0 : Int) (g_1 : Nat → Int) (g_2 : Nat → Int) (k0 : Nat → Nat → Nat → (List Int) → β) : β :=
  s_l07Corners_l0 z N g_0 g_1 g_2 N 0 0 0 0 (List.replicate 0 0) (fun q6 q7 q8 q9 => k0 q6 q7 q8 q9)

/-- spec.CornersOf -/
def s_CornersOf {β : Type} (z : β) (N : Nat) (g_0 : Int) (g_1 : Nat → Int) (g_2 : Nat → Int) (k0 : Int → β) (k1 : Nat → Nat → Nat → Int → (List Int) → β) : β :=
  s_l01Is z N g_0 g_1 g_2 (fun q6 => cond (!q6) (k0 1) (s_l07Corners z N g_0 g_1 g_2 (fun q7 q8 q9 q10 => k1 q7 q8 q9 0 q10)))

/-- impl.kind -/
def i_kind {β : Type} (z : β) (N : Nat) (column : Int) (row : Int) (otherRow : Int) (otherColumn : Int) (k0 : Int → β) : β :=
  cond (decide (otherRow < row)) (cond (decide (otherColumn < column)) (k0 3) (k0 2)) (cond (decide (otherColumn < column)) (k0 1) (k0 0))

/-- (impl.Grid).corners, loop -/
def i_Grid_corners_l0_s {β : Type} (z : β) (N : Nat) (t19 : Int) (h0_0 : Int) (h0_1 : Nat → Int) (h0_2 : Nat → Int) (h2 : Nat → Int) (h3 : Nat → Int) (out_n : Nat) (out_l : Nat) (out_c : Nat) (t20 : Int) (h1 : List Int) (kn : Nat → Nat → Nat → Int → (List Int) → β) (k0 : Nat → Nat → Nat → (List Int) → β) : β :=
  cond (decide (t20 < t19)) (cond (decide (0 ≤ t20) && decide (t20 < (↑8 : Int))) (cond (t20.toNat.blt 8) (cond (decide (0 ≤ t20) && decide (t20 < (↑8 : Int))) (cond (t20.toNat.blt 8) (cond (decide (0 ≤ h0_1 t20.toNat) && decide (h0_1 t20.toNat < (↑8 : Int))) (cond ((h0_1 t20.toNat).toNat.blt 8) (i_kind z N t20 (h0_1 t20.toNat) (h0_2 t20.toNat) (h3 (h0_1 t20.toNat).toNat) (fun q15 => cond (out_n.beq h1.length && true) (cond ((out_l + 1).ble 1099511627776 && ((out_l + 1) * 32).ble 1099511627776) (cond ((out_l + 1).ble out_c) (cond (out_n.beq h1.length && (((0 + out_l * 4) % 4).beq 0 && (0 + out_l * 4 + 4).ble h1.length)) (cond (decide (0 ≤ h0_2 t20.toNat) && decide (h0_2 t20.toNat < (↑8 : Int))) (cond ((h0_2 t20.toNat).toNat.blt 8) (i_kind z N t20 (h0_2 t20.toNat) (h0_1 t20.toNat) (h2 (h0_2 t20.toNat).toNat) (fun q16 => cond (out_n.beq (List.take (0 + out_l * 4) h1 ++ (fromTo [t20, h0_1 t20.toNat, q15, bif true then 1 else 0] 0 4 ++ List.drop (0 + out_l * 4 + 4) h1)).length && true) (cond ((out_l + 1 + 1).ble 1099511627776 && ((out_l + 1 + 1) * 32).ble 1099511627776) (cond ((out_l + 1 + 1).ble out_c) (cond (out_n.beq (List.take (0 + out_l * 4) h1 ++ (fromTo [t20, h0_1 t20.toNat, q15, bif true then 1 else 0] 0 4 ++ List.drop (0 + out_l * 4 + 4) h1)).length && (((0 + (out_l + 1) * 4) % 4).beq 0 && (0 + (out_l + 1) * 4 + 4).ble (List.take (0 + out_l * 4) h1 ++ (fromTo [t20, h0_1 t20.toNat, q15, bif true then 1 else 0] 0 4 ++ List.drop (0 + out_l * 4 + 4) h1)).length)) (cond (fits IntKind.i64 (t20 + 1)) (kn out_n (out_l + 1 + 1) out_c (t20 + 1) (List.take (0 + (out_l + 1) * 4) (List.take (0 + out_l * 4) h1 ++ (fromTo [t20, h0_1 t20.toNat, q15, bif true then 1 else 0] 0 4 ++ List.drop (0 + out_l * 4 + 4) h1)) ++ (fromTo [t20, h0_2 t20.toNat, q16, bif false then 1 else 0] 0 4 ++ List.drop (0 + (out_l + 1) * 4 + 4) (List.take (0 + out_l * 4) h1 ++ (fromTo [t20, h0_1 t20.toNat, q15, bif true then 1 else 0] 0 4 ++ List.drop (0 + out_l * 4 + 4) h1))))) (z)) (z)) (cond (((out_l + 1) * 4).beq (List.take (0 + out_l * 4) h1 ++ (fromTo [t20, h0_1 t20.toNat, q15, bif true then 1 else 0] 0 4 ++ List.drop (0 + out_l * 4 + 4) h1)).length && ((List.take (0 + out_l * 4) h1 ++ (fromTo [t20, h0_1 t20.toNat, q15, bif true then 1 else 0] 0 4 ++ List.drop (0 + out_l * 4 + 4) h1)).length % 4).beq 0) (cond (fits IntKind.i64 (t20 + 1)) (kn ((List.take (0 + out_l * 4) h1 ++ (fromTo [t20, h0_1 t20.toNat, q15, bif true then 1 else 0] 0 4 ++ List.drop (0 + out_l * 4 + 4) h1) ++ fromTo [t20, h0_2 t20.toNat, q16, bif false then 1 else 0] 0 4).length) (out_l + 1 + 1) (out_l + 1 + 1) (t20 + 1) (List.take (0 + out_l * 4) h1 ++ (fromTo [t20, h0_1 t20.toNat, q15, bif true then 1 else 0] 0 4 ++ List.drop (0 + out_l * 4 + 4) h1) ++ fromTo [t20, h0_2 t20.toNat, q16, bif false then 1 else 0] 0 4)) (z)) (z))) (z)) (z))) (z)) (z)) (z)) (cond ((out_l * 4).beq h1.length && (h1.length % 4).beq 0) (cond (decide (0 ≤ h0_2 t20.toNat) && decide (h0_2 t20.toNat < (↑8 : Int))) (cond ((h0_2 t20.toNat).toNat.blt 8) (i_kind z N t20 (h0_2 t20.toNat) (h0_1 t20.toNat) (h2 (h0_2 t20.toNat).toNat) (fun q16 => cond ((h1 ++ fromTo [t20, h0_1 t20.toNat, q15, bif true then 1 else 0] 0 4).length.beq (h1 ++ fromTo [t20, h0_1 t20.toNat, q15, bif true then 1 else 0] 0 4).length && true) (cond ((out_l + 1 + 1).ble 1099511627776 && ((out_l + 1 + 1) * 32).ble 1099511627776) (cond ((out_l + 1 + 1).ble (out_l + 1)) (cond ((h1 ++ fromTo [t20, h0_1 t20.toNat, q15, bif true then 1 else 0] 0 4).length.beq (h1 ++ fromTo [t20, h0_1 t20.toNat, q15, bif true then 1 else 0] 0 4).length && (((0 + (out_l + 1) * 4) % 4).beq 0 && (0 + (out_l + 1) * 4 + 4).ble (h1 ++ fromTo [t20, h0_1 t20.toNat, q15, bif true then 1 else 0] 0 4).length)) (cond (fits IntKind.i64 (t20 + 1)) (kn ((h1 ++ fromTo [t20, h0_1 t20.toNat, q15, bif true then 1 else 0] 0 4).length) (out_l + 1 + 1) (out_l + 1) (t20 + 1) (List.take (0 + (out_l + 1) * 4) (h1 ++ fromTo [t20, h0_1 t20.toNat, q15, bif true then 1 else 0] 0 4) ++ (fromTo [t20, h0_2 t20.toNat, q16, bif false then 1 else 0] 0 4 ++ List.drop (0 + (out_l + 1) * 4 + 4) (h1 ++ fromTo [t20, h0_1 t20.toNat, q15, bif true then 1 else 0] 0 4)))) (z)) (z)) (cond (((out_l + 1) * 4).beq (h1 ++ fromTo [t20, h0_1 t20.toNat, q15, bif true then 1 else 0] 0 4).length && ((h1 ++ fromTo [t20, h0_1 t20.toNat, q15, bif true then 1 else 0] 0 4).length % 4).beq 0) (cond (fits IntKind.i64 (t20 + 1)) (kn ((h1 ++ fromTo [t20, h0_1 t20.toNat, q15, bif true then 1 else 0] 0 4 ++ fromTo [t20, h0_2 t20.toNat, q16, bif false then 1 else 0] 0 4).length) (out_l + 1 + 1) (out_l + 1 + 1) (t20 + 1) (h1 ++ fromTo [t20, h0_1 t20.toNat, q15, bif true then 1 else 0] 0 4 ++ fromTo [t20, h0_2 t20.toNat, q16, bif false then 1 else 0] 0 4)) (z)) (z))) (z)) (z))) (z)) (z)) (z))) (z)) (z))) (z)) (z)) (z)) (z)) (z)) (z)) (k0 out_n out_l out_c h1)
def i_Grid_corners_l0 {β : Type} (z : β) (N : Nat) (t19 : Int) (h0_0 : Int) (h0_1 : Nat → Int) (h0_2 : Nat → Int) (h2 : Nat → Int) (h3 : Nat → Int) : Nat → Nat → Nat → Nat → Int → (List Int) → (Nat → Nat → Nat → (List Int) → β) → β
  | 0, _, _, _, _, _, _ => z
  | m + 1, out_n, out_l, out_c, t20, h1, k0 => i_Grid_corners_l0_s z N t19 h0_0 h0_1 h0_2 h2 h3 out_n out_l out_c t20 h1 (fun out_n out_l out_c t20 h1 => i_Grid_corners_l0 z N t19 h0_0 h0_1 h0_2 h2 h3 m out_n out_l out_c t20 h1 k0) k0

/-- (impl.Grid).corners -/
def i_Grid_corners {β : Type} (z : β) (N : Nat) (g_0 : Int) (g_1 : Nat → Int) (g_2 : Nat → Int) (k0 : Nat → Nat → Nat → (List Int) → β) : β :=
  i_Grid_places z N g_0 g_1 g_2 g_1 (fun q6 => i_Grid_places z N g_0 g_1 g_2 g_2 (fun q7 => i_Grid_n z N g_0 g_1 g_2 (i_Grid_corners_l0 z N g_0 g_0 g_1 g_2 q6 q7 N 0 0 0 0 (List.replicate 0 0) (fun q8 q9 q10 q11 => k0 q8 q9 q10 q11))))

/-- impl.whole[[]impl.Corner] -/
def i_whole_i_Corner {β : Type} (z : β) (N : Nat) (g_0 : Int) (g_1 : Nat → Int) (g_2 : Nat → Int) (k0 : Int → β) (k1 : Nat → Nat → Nat → Int → (List Int) → β) : β :=
  i_IsGrid z N g_0 g_1 g_2 (fun q6 => cond (!q6) (k0 1) (i_Grid_corners z N g_0 g_1 g_2 (fun q7 q8 q9 q10 => k1 q7 q8 q9 0 q10)))

/-- impl.CornersOf -/
def i_CornersOf {β : Type} (z : β) (N : Nat) (g_0 : Int) (g_1 : Nat → Int) (g_2 : Nat → Int) (k0 : Int → β) (k1 : Nat → Nat → Nat → Int → (List Int) → β) : β :=
  i_whole_i_Corner z N g_0 g_1 g_2 (fun q6 => k0 q6) (fun q6 q7 q8 q9 q10 => k1 q6 q7 q8 q9 q10)

/-- laws.eqCornerS, loop -/
def w_eqCornerS_l0_s {β : Type} (z : β) (i : Int)  (kn : β) (k0 : β) : β :=
  cond (decide (i < 0)) (z) (k0)
def w_eqCornerS_l0 {β : Type} (z : β) (i : Int) : Nat → β → β
  | 0, _ => z
  | m + 1, k0 => w_eqCornerS_l0_s z i (w_eqCornerS_l0 z i m k0) k0

/-- laws.eqCornerS -/
def w_eqCornerS {β : Type} (z : β) (N : Nat)  (k0 : Bool → β) : β :=
  w_eqCornerS_l0 z 0 N (k0 true)

/-- laws.markCornerS, loop -/
def w_markCornerS_l0_s {β : Type} (z : β) (k : Int) (i : Int)  (kn : β) (k0 : β) : β :=
  cond (decide (i < 0)) (z) (k0)
def w_markCornerS_l0 {β : Type} (z : β) (k : Int) (i : Int) : Nat → β → β
  | 0, _ => z
  | m + 1, k0 => w_markCornerS_l0_s z k i (w_markCornerS_l0 z k i m k0) k0

/-- laws.markCornerS -/
def w_markCornerS {β : Type} (z : β) (N : Nat) (k : Int) (k0 : β) : β :=
  w_markCornerS_l0 z k 0 N k0

/-- laws.heldCornerS, loop -/
def w_heldCornerS_l0_s {β : Type} (z : β) (k : Int) (i : Int)  (kn : β) (k0 : β) : β :=
  cond (decide (i < 0)) (z) (k0)
def w_heldCornerS_l0 {β : Type} (z : β) (k : Int) (i : Int) : Nat → β → β
  | 0, _ => z
  | m + 1, k0 => w_heldCornerS_l0_s z k i (w_heldCornerS_l0 z k i m k0) k0

/-- laws.heldCornerS -/
def w_heldCornerS {β : Type} (z : β) (N : Nat) (k : Int) (k0 : β) : β :=
  w_heldCornerS_l0 z k 0 N k0

/-- laws.eqCornerS, loop -/
def w_eqCornerS_l0_s2_s {β : Type} (z : β) (a_n : Nat) (a_l : Nat) (a_c : Nat) (i : Int) (h0 : List Int)  (kn : β) (k0 : β) : β :=
  cond (a_l.ble 9223372036854775807) (cond (decide (i < (↑a_l : Int))) (cond (a_n.beq h0.length && (decide (0 ≤ i) && decide (i < (↑a_l : Int)))) (cond (a_n.beq h0.length && ((i.toNat * 4 % 4).beq 0 && (i.toNat * 4 + 4).ble h0.length)) (z) (z)) (z)) (k0)) (z)
def w_eqCornerS_l0_s2 {β : Type} (z : β) (a_n : Nat) (a_l : Nat) (a_c : Nat) (i : Int) (h0 : List Int) : Nat → β → β
  | 0, _ => z
  | m + 1, k0 => w_eqCornerS_l0_s2_s z a_n a_l a_c i h0 (w_eqCornerS_l0_s2 z a_n a_l a_c i h0 m k0) k0

/-- laws.eqCornerS -/
def w_eqCornerS_s2 {β : Type} (z : β) (N : Nat) (a_n : Nat) (a_l : Nat) (a_c : Nat) (h0 : List Int) (k0 : Bool → β) : β :=
  cond (a_l.ble 9223372036854775807) (cond ((↑a_l : Int) != 0) (k0 false) (w_eqCornerS_l0_s2 z a_n a_l a_c 0 h0 N (k0 true))) (z)

/-- laws.markCornerS, loop -/
def w_markCornerS_l0_s2_s {β : Type} (z : β) (a_n : Nat) (a_l : Nat) (a_c : Nat) (k : Int) (i : Int) (h0 : List Int) (kn : Int → Int → (List Int) → β) (k0 : Int → (List Int) → β) : β :=
  cond (a_l.ble 9223372036854775807) (cond (decide (i < (↑a_l : Int))) (cond (a_n.beq h0.length && (decide (0 ≤ i) && decide (i < (↑a_l : Int)))) (cond (a_n.beq h0.length) (cond (a_n.beq h0.length && ((i.toNat * 4 % 4).beq 0 && (i.toNat * 4 + 4).ble h0.length)) (cond (fits IntKind.i64 (k + 1)) (cond (a_n.beq (h0.set (addO (i.toNat * 4) 0) k).length && (decide (0 ≤ i) && decide (i < (↑a_l : Int)))) (cond (a_n.beq (h0.set (addO (i.toNat * 4) 0) k).length) (cond (a_n.beq (h0.set (addO (i.toNat * 4) 0) k).length && ((i.toNat * 4 % 4).beq 0 && (i.toNat * 4 + 4).ble (h0.set (addO (i.toNat * 4) 0) k).length)) (cond (fits IntKind.i64 (k + 1 + 1)) (cond (a_n.beq ((h0.set (addO (i.toNat * 4) 0) k).set (addO (i.toNat * 4) 1) (k + 1)).length && (decide (0 ≤ i) && decide (i < (↑a_l : Int)))) (cond (a_n.beq ((h0.set (addO (i.toNat * 4) 0) k).set (addO (i.toNat * 4) 1) (k + 1)).length) (cond (a_n.beq ((h0.set (addO (i.toNat * 4) 0) k).set (addO (i.toNat * 4) 1) (k + 1)).length && ((i.toNat * 4 % 4).beq 0 && (i.toNat * 4 + 4).ble ((h0.set (addO (i.toNat * 4) 0) k).set (addO (i.toNat * 4) 1) (k + 1)).length)) (cond (fits IntKind.i64 (k + 1 + 1 + 1)) (cond (a_n.beq (((h0.set (addO (i.toNat * 4) 0) k).set (addO (i.toNat * 4) 1) (k + 1)).set (addO (i.toNat * 4) 2) (k + 1 + 1)).length && (decide (0 ≤ i) && decide (i < (↑a_l : Int)))) (cond (a_n.beq (((h0.set (addO (i.toNat * 4) 0) k).set (addO (i.toNat * 4) 1) (k + 1)).set (addO (i.toNat * 4) 2) (k + 1 + 1)).length) (cond (a_n.beq (((h0.set (addO (i.toNat * 4) 0) k).set (addO (i.toNat * 4) 1) (k + 1)).set (addO (i.toNat * 4) 2) (k + 1 + 1)).length && ((i.toNat * 4 % 4).beq 0 && (i.toNat * 4 + 4).ble (((h0.set (addO (i.toNat * 4) 0) k).set (addO (i.toNat * 4) 1) (k + 1)).set (addO (i.toNat * 4) 2) (k + 1 + 1)).length)) (cond (fits IntKind.i64 (k + 1 + 1 + 1 + 1)) (cond (fits IntKind.i64 (i + 1)) (kn (k + 1 + 1 + 1 + 1) (i + 1) ((((h0.set (addO (i.toNat * 4) 0) k).set (addO (i.toNat * 4) 1) (k + 1)).set (addO (i.toNat * 4) 2) (k + 1 + 1)).set (addO (i.toNat * 4) 3) (bif (k + 1 + 1 + 1).tmod 3 == 0 then 1 else 0))) (z)) (z)) (z)) (z)) (z)) (z)) (z)) (z)) (z)) (z)) (z)) (z)) (z)) (z)) (z)) (z)) (z)) (k0 k h0)) (z)
def w_markCornerS_l0_s2 {β : Type} (z : β) (a_n : Nat) (a_l : Nat) (a_c : Nat) : Nat → Int → Int → (List Int) → (Int → (List Int) → β) → β
  | 0, _, _, _, _ => z
  | m + 1, k, i, h0, k0 => w_markCornerS_l0_s2_s z a_n a_l a_c k i h0 (fun k i h0 => w_markCornerS_l0_s2 z a_n a_l a_c m k i h0 k0) k0

/-- laws.markCornerS -/
def w_markCornerS_s2 {β : Type} (z : β) (N : Nat) (a_n : Nat) (a_l : Nat) (a_c : Nat) (k : Int) (h0 : List Int) (k0 : Int → (List Int) → β) : β :=
  w_markCornerS_l0_s2 z a_n a_l a_c N k 0 h0 (fun q8 q9 => k0 q8 q9)

/-- laws.heldCornerS, loop -/
def w_heldCornerS_l0_s2_s {β : Type} (z : β) (a_n : Nat) (a_l : Nat) (a_c : Nat) (h0 : List Int) (k : Int) (i : Int) (kn : Int → Int → β) (k0 : β) (k1 : Int → β) : β :=
  cond (a_l.ble 9223372036854775807) (cond (decide (i < (↑a_l : Int))) (cond (a_n.beq h0.length && (decide (0 ≤ i) && decide (i < (↑a_l : Int)))) (cond (a_n.beq h0.length) (cond (a_n.beq h0.length && ((i.toNat * 4 % 4).beq 0 && (i.toNat * 4 + 4).ble h0.length)) (cond (h0[addO (i.toNat * 4) 0]?.getD 0 != k) (k0) (cond (fits IntKind.i64 (k + 1)) (cond (a_n.beq h0.length && (decide (0 ≤ i) && decide (i < (↑a_l : Int)))) (cond (a_n.beq h0.length) (cond (a_n.beq h0.length && ((i.toNat * 4 % 4).beq 0 && (i.toNat * 4 + 4).ble h0.length)) (cond (h0[addO (i.toNat * 4) 1]?.getD 0 != k + 1) (k0) (cond (fits IntKind.i64 (k + 1 + 1)) (cond (a_n.beq h0.length && (decide (0 ≤ i) && decide (i < (↑a_l : Int)))) (cond (a_n.beq h0.length) (cond (a_n.beq h0.length && ((i.toNat * 4 % 4).beq 0 && (i.toNat * 4 + 4).ble h0.length)) (cond (h0[addO (i.toNat * 4) 2]?.getD 0 != k + 1 + 1) (k0) (cond (fits IntKind.i64 (k + 1 + 1 + 1)) (cond (a_n.beq h0.length && (decide (0 ≤ i) && decide (i < (↑a_l : Int)))) (cond (a_n.beq h0.length) (cond (a_n.beq h0.length && ((i.toNat * 4 % 4).beq 0 && (i.toNat * 4 + 4).ble h0.length)) (cond ((h0[addO (i.toNat * 4) 3]?.getD 0 != 0) != ((k + 1 + 1 + 1).tmod 3 == 0)) (k0) (cond (fits IntKind.i64 (k + 1 + 1 + 1 + 1)) (cond (fits IntKind.i64 (i + 1)) (kn (k + 1 + 1 + 1 + 1) (i + 1)) (z)) (z))) (z)) (z)) (z)) (z))) (z)) (z)) (z)) (z))) (z)) (z)) (z)) (z))) (z)) (z)) (z)) (k1 k)) (z)
def w_heldCornerS_l0_s2 {β : Type} (z : β) (a_n : Nat) (a_l : Nat) (a_c : Nat) (h0 : List Int) : Nat → Int → Int → β → (Int → β) → β
  | 0, _, _, _, _ => z
  | m + 1, k, i, k0, k1 => w_heldCornerS_l0_s2_s z a_n a_l a_c h0 k i (fun k i => w_heldCornerS_l0_s2 z a_n a_l a_c h0 m k i k0 k1) k0 k1

/-- laws.heldCornerS -/
def w_heldCornerS_s2 {β : Type} (z : β) (N : Nat) (a_n : Nat) (a_l : Nat) (a_c : Nat) (k : Int) (h0 : List Int) (k0 : Int → β) : β :=
  w_heldCornerS_l0_s2 z a_n a_l a_c h0 N k 0 (k0 (-1)) (fun q8 => k0 q8)

/-- laws.eqCornerS, loop -/
def w_eqCornerS_l0_s3_s {β : Type} (z : β) (b_n : Nat) (b_l : Nat) (b_c : Nat) (i : Int) (h0 : List Int)  (kn : β) (k0 : β) : β :=
  cond (decide (i < 0)) (z) (k0)
def w_eqCornerS_l0_s3 {β : Type} (z : β) (b_n : Nat) (b_l : Nat) (b_c : Nat) (i : Int) (h0 : List Int) : Nat → β → β
  | 0, _ => z
  | m + 1, k0 => w_eqCornerS_l0_s3_s z b_n b_l b_c i h0 (w_eqCornerS_l0_s3 z b_n b_l b_c i h0 m k0) k0

/-- laws.eqCornerS -/
def w_eqCornerS_s3 {β : Type} (z : β) (N : Nat) (b_n : Nat) (b_l : Nat) (b_c : Nat) (h0 : List Int) (k0 : Bool → β) : β :=
  cond (b_l.ble 9223372036854775807) (cond (0 != (↑b_l : Int)) (k0 false) (w_eqCornerS_l0_s3 z b_n b_l b_c 0 h0 N (k0 true))) (z)

/-- laws.eqCorner -/
def w_eqCorner {β : Type} (z : β) (N : Nat) (a_0 : Int) (a_1 : Int) (a_2 : Int) (a_3 : Bool) (b_0 : Int) (b_1 : Int) (b_2 : Int) (b_3 : Bool) (k0 : Bool → β) : β :=
  cond (a_0 != b_0) (k0 false) (cond (a_1 != b_1) (k0 false) (cond (a_2 != b_2) (k0 false) (cond (a_3 != b_3) (k0 false) (k0 true))))

/-- laws.eqCornerS, loop -/
def w_eqCornerS_l0_s4_s {β : Type} (z : β) (N : Nat) (a_n : Nat) (a_l : Nat) (a_c : Nat) (b_n : Nat) (b_l : Nat) (b_c : Nat) (h0 : List Int) (h1 : List Int) (i : Int) (kn : Int → β) (k0 : β) (k1 : β) : β :=
  cond (a_l.ble 9223372036854775807) (cond (decide (i < (↑a_l : Int))) (cond (a_n.beq h0.length && (decide (0 ≤ i) && decide (i < (↑a_l : Int)))) (cond (a_n.beq h0.length && ((i.toNat * 4 % 4).beq 0 && (i.toNat * 4 + 4).ble h0.length)) (cond (b_n.beq h1.length && (decide (0 ≤ i) && decide (i < (↑b_l : Int)))) (cond (b_n.beq h1.length && ((i.toNat * 4 % 4).beq 0 && (i.toNat * 4 + 4).ble h1.length)) (w_eqCorner z N (h0[addO (i.toNat * 4) 0]?.getD 0) (h0[addO (i.toNat * 4) 1]?.getD 0) (h0[addO (i.toNat * 4) 2]?.getD 0) (h0[addO (i.toNat * 4) 3]?.getD 0 != 0) (h1[addO (i.toNat * 4) 0]?.getD 0) (h1[addO (i.toNat * 4) 1]?.getD 0) (h1[addO (i.toNat * 4) 2]?.getD 0) (h1[addO (i.toNat * 4) 3]?.getD 0 != 0) (fun q13 => cond (!q13) (k0) (cond (fits IntKind.i64 (i + 1)) (kn (i + 1)) (z)))) (z)) (z)) (z)) (z)) (k1)) (z)
def w_eqCornerS_l0_s4 {β : Type} (z : β) (N : Nat) (a_n : Nat) (a_l : Nat) (a_c : Nat) (b_n : Nat) (b_l : Nat) (b_c : Nat) (h0 : List Int) (h1 : List Int) : Nat → Int → β → β → β
  | 0, _, _, _ => z
  | m + 1, i, k0, k1 => w_eqCornerS_l0_s4_s z N a_n a_l a_c b_n b_l b_c h0 h1 i (fun i => w_eqCornerS_l0_s4 z N a_n a_l a_c b_n b_l b_c h0 h1 m i k0 k1) k0 k1

/-- laws.eqCornerS -/
def w_eqCornerS_s4 {β : Type} (z : β) (N : Nat) (a_n : Nat) (a_l : Nat) (a_c : Nat) (b_n : Nat) (b_l : Nat) (b_c : Nat) (h0 : List Int) (h1 : List Int) (k0 : Bool → β) : β :=
  cond (a_l.ble 9223372036854775807) (cond (b_l.ble 9223372036854775807) (cond ((↑a_l : Int) != (↑b_l : Int)) (k0 false) (w_eqCornerS_l0_s4 z N a_n a_l a_c b_n b_l b_c h0 h1 N 0 (k0 false) (k0 true))) (z)) (z)

/-- laws.FnExactCornersOf -/
def w_FnExactCornersOf {β : Type} (z : β) (N : Nat) (aG_0 : Int) (aG_1 : Nat → Int) (aG_2 : Nat → Int) (k0 : Bool → β) : β :=
  w_toGrid z N aG_0 aG_1 aG_2 (fun q6 q7 => s_CornersOf z N aG_0 q6 q7 (fun q8 => w_toGrid z N aG_0 aG_1 aG_2 (fun q9 q10 => i_CornersOf z N aG_0 q9 q10 (fun q11 => w_eqCornerS z N (fun q12 => cond (!q12) (k0 false) (cond (q11 != q8) (k0 false) (w_markCornerS z N 1 (w_heldCornerS z N 1 (w_toGrid z N aG_0 aG_1 aG_2 (fun q13 q14 => i_CornersOf z N aG_0 q13 q14 (fun q15 => w_eqCornerS z N (fun q16 => cond (!q16) (k0 false) (cond (q15 != q8) (k0 false) (w_heldCornerS z N 1 (k0 true))))) (fun q15 q16 q17 q18 q19 => w_eqCornerS_s2 z N q15 q16 q17 q19 (fun q20 => cond (!q20) (k0 false) (cond (q18 != q8) (k0 false) (w_heldCornerS z N 1 (k0 true)))))))))))) (fun q11 q12 q13 q14 q15 => w_eqCornerS_s2 z N q11 q12 q13 q15 (fun q16 => cond (!q16) (k0 false) (cond (q14 != q8) (k0 false) (w_markCornerS_s2 z N q11 q12 q13 1 q15 (fun q17 q18 => w_heldCornerS_s2 z N q11 q12 q13 1 q18 (fun q19 => cond (decide (q19 < 0)) (k0 false) (cond (q19 != q17) (k0 false) (w_toGrid z N aG_0 aG_1 aG_2 (fun q20 q21 => i_CornersOf z N aG_0 q20 q21 (fun q22 => w_eqCornerS z N (fun q23 => cond (!q23) (k0 false) (cond (q22 != q8) (k0 false) (w_heldCornerS_s2 z N q11 q12 q13 1 q18 (fun q24 => cond (decide (q24 < 0)) (k0 false) (cond (q24 != q17) (k0 false) (k0 true))))))) (fun q22 q23 q24 q25 q26 => w_eqCornerS_s2 z N q22 q23 q24 q26 (fun q27 => cond (!q27) (k0 false) (cond (q25 != q8) (k0 false) (w_heldCornerS_s2 z N q11 q12 q13 1 q18 (fun q28 => cond (decide (q28 < 0)) (k0 false) (cond (q28 != q17) (k0 false) (k0 true)))))))))))))))))) (fun q8 q9 q10 q11 q12 => w_toGrid z N aG_0 aG_1 aG_2 (fun q13 q14 => i_CornersOf z N aG_0 q13 q14 (fun q15 => w_eqCornerS_s3 z N q8 q9 q10 q12 (fun q16 => cond (!q16) (k0 false) (cond (q15 != q11) (k0 false) (w_markCornerS z N 1 (w_heldCornerS z N 1 (w_toGrid z N aG_0 aG_1 aG_2 (fun q17 q18 => i_CornersOf z N aG_0 q17 q18 (fun q19 => w_eqCornerS_s3 z N q8 q9 q10 q12 (fun q20 => cond (!q20) (k0 false) (cond (q19 != q11) (k0 false) (w_heldCornerS z N 1 (k0 true))))) (fun q19 q20 q21 q22 q23 => w_eqCornerS_s4 z N q19 q20 q21 q8 q9 q10 q23 q12 (fun q24 => cond (!q24) (k0 false) (cond (q22 != q11) (k0 false) (w_heldCornerS z N 1 (k0 true)))))))))))) (fun q15 q16 q17 q18 q19 => w_eqCornerS_s4 z N q15 q16 q17 q8 q9 q10 q19 q12 (fun q20 => cond (!q20) (k0 false) (cond (q18 != q11) (k0 false) (w_markCornerS_s2 z N q15 q16 q17 1 q19 (fun q21 q22 => w_heldCornerS_s2 z N q15 q16 q17 1 q22 (fun q23 => cond (decide (q23 < 0)) (k0 false) (cond (q23 != q21) (k0 false) (w_toGrid z N aG_0 aG_1 aG_2 (fun q24 q25 => i_CornersOf z N aG_0 q24 q25 (fun q26 => w_eqCornerS_s3 z N q8 q9 q10 q12 (fun q27 => cond (!q27) (k0 false) (cond (q26 != q11) (k0 false) (w_heldCornerS_s2 z N q15 q16 q17 1 q22 (fun q28 => cond (decide (q28 < 0)) (k0 false) (cond (q28 != q21) (k0 false) (k0 true))))))) (fun q26 q27 q28 q29 q30 => w_eqCornerS_s4 z N q26 q27 q28 q8 q9 q10 q30 q12 (fun q31 => cond (!q31) (k0 false) (cond (q29 != q11) (k0 false) (w_heldCornerS_s2 z N q15 q16 q17 1 q22 (fun q32 => cond (decide (q32 < 0)) (k0 false) (cond (q32 != q21) (k0 false) (k0 true)))))))))))))))))))
end Go.AM

set_option maxRecDepth 100000
namespace Go.AM
/-- spec.l01Components, loop -/
def s_l01Components_l0_s {β : Type} (z : β) (h0_0 : Int) (h0_1 : Nat → Int) (h0_2 : Nat → Int) (h1 : Nat → Int) (i : Int) (h2 : Nat → Int) (kn : Int → (Nat → Int) → β) (k0 : (Nat → Int) → β) : β :=
  cond (decide (i < 8)) (cond (decide (0 ≤ i) && decide (i < (↑8 : Int))) (cond (i.toNat.blt 8) (cond (fits IntKind.i64 (i + 1)) (kn (i + 1) (upd h2 i.toNat (-1))) (z)) (z)) (z)) (k0 h2)
def s_l01Components_l0 {β : Type} (z : β) (h0_0 : Int) (h0_1 : Nat → Int) (h0_2 : Nat → Int) (h1 : Nat → Int) : Nat → Int → (Nat → Int) → ((Nat → Int) → β) → β
  | 0, _, _, _ => z
  | m + 1, i, h2, k0 => s_l01Components_l0_s z h0_0 h0_1 h0_2 h1 i h2 (fun i h2 => s_l01Components_l0 z h0_0 h0_1 h0_2 h1 m i h2 k0) k0

/-- spec.l01Follow -/
def s_l01Follow {β : Type} (z : β) (N : Nat) (g_0 : Int) (g_1 : Nat → Int) (g_2 : Nat → Int) (i : Int) (k0 : Int → β) : β :=
  cond (decide (0 ≤ i) && decide (i < (↑8 : Int))) (cond (i.toNat.blt 8) (s_l01Row z N g_1 g_0 (g_2 i.toNat) (fun q7 => k0 q7)) (z)) (z)

/-- spec.l01Components, loop -/
def s_l01Components_l2_s {β : Type} (z : β) (N : Nat) (count : Int) (i : Int) (h0_0 : Int) (h0_1 : Nat → Int) (h0_2 : Nat → Int) (h1 : Nat → Int) (k : Int) (h2 : Nat → Int) (kn : Int → (Nat → Int) → β) (k0 : (Nat → Int) → β) : β :=
  cond (decide (0 ≤ k) && decide (k < (↑8 : Int))) (cond (k.toNat.blt 8) (cond (decide (h2 k.toNat < 0)) (cond (decide (0 ≤ k) && decide (k < (↑8 : Int))) (cond (k.toNat.blt 8) (s_l01Follow z N h0_0 h0_1 h0_2 k (fun q12 => kn q12 (upd h2 k.toNat count))) (z)) (z)) (k0 h2)) (z)) (z)
def s_l01Components_l2 {β : Type} (z : β) (N : Nat) (count : Int) (i : Int) (h0_0 : Int) (h0_1 : Nat → Int) (h0_2 : Nat → Int) (h1 : Nat → Int) : Nat → Int → (Nat → Int) → ((Nat → Int) → β) → β
  | 0, _, _, _ => z
  | m + 1, k, h2, k0 => s_l01Components_l2_s z N count i h0_0 h0_1 h0_2 h1 k h2 (fun k h2 => s_l01Components_l2 z N count i h0_0 h0_1 h0_2 h1 m k h2 k0) k0

/-- spec.l01Components, loop -/
def s_l01Components_l1_s {β : Type} (z : β) (N : Nat) (h0_0 : Int) (h0_1 : Nat → Int) (h0_2 : Nat → Int) (h1 : Nat → Int) (count : Int) (i : Int) (h2 : Nat → Int) (kn : Int → Int → (Nat → Int) → β) (k0 : Int → (Nat → Int) → β) : β :=
  cond (decide (i < h0_0)) (cond (decide (0 ≤ i) && decide (i < (↑8 : Int))) (cond (i.toNat.blt 8) (cond (decide (0 ≤ h2 i.toNat)) (cond (fits IntKind.i64 (i + 1)) (kn count (i + 1) h2) (z)) (s_l01Components_l2 z N count i h0_0 h0_1 h0_2 h1 N i h2 (fun q11 => cond (fits IntKind.i64 (count + 1)) (cond (fits IntKind.i64 (i + 1)) (kn (count + 1) (i + 1) q11) (z)) (z)))) (z)) (z)) (k0 count h2)
def s_l01Components_l1 {β : Type} (z : β) (N : Nat) (h0_0 : Int) (h0_1 : Nat → Int) (h0_2 : Nat → Int) (h1 : Nat → Int) : Nat → Int → Int → (Nat → Int) → (Int → (Nat → Int) → β) → β
  | 0, _, _, _, _ => z
  | m + 1, count, i, h2, k0 => s_l01Components_l1_s z N h0_0 h0_1 h0_2 h1 count i h2 (fun count i h2 => s_l01Components_l1 z N h0_0 h0_1 h0_2 h1 m count i h2 k0) k0

/-- spec.l01Components -/
def s_l01Components {β : Type} (z : β) (N : Nat) (g_0 : Int) (g_1 : Nat → Int) (g_2 : Nat → Int) (k0 : (Nat → Int) → Int → β) : β :=
  s_l01Components_l0 z g_0 g_1 g_2 (fun (x : Nat) => 0) N 0 (fun (x : Nat) => 0) (fun q6 => s_l01Components_l1 z N g_0 g_1 g_2 (fun (x : Nat) => 0) N 0 0 q6 (fun q7 q8 => k0 q8 q7))

/-- spec.l07Cusps, loop -/
def s_l07Cusps_l0_s {β : Type} (z : β) (t1 : Int) (t8_n : Nat) (t8_l : Nat) (t8_c : Nat) (h0_0 : Int) (h0_1 : Nat → Int) (h0_2 : Nat → Int) (h1 : Nat → Int) (h2 : List Int) (t9 : Int) (t10 : Int) (t11 : Int) (kn : Int → Int → Int → β) (k0 : Int → Int → β) : β :=
  cond (t8_l.ble 9223372036854775807) (cond (decide (t11 < (↑t8_l : Int))) (cond (decide (0 ≤ t1)) (cond (t8_n.beq h2.length && (decide (0 ≤ t11) && decide (t11 < (↑t8_l : Int)))) (cond (t8_n.beq h2.length) (cond (t8_n.beq h2.length && ((t11.toNat * 4 % 4).beq 0 && (t11.toNat * 4 + 4).ble h2.length)) (cond (decide (0 ≤ h2[addO (t11.toNat * 4) 0]?.getD 0) && decide (h2[addO (t11.toNat * 4) 0]?.getD 0 < (↑8 : Int))) (cond ((h2[addO (t11.toNat * 4) 0]?.getD 0).toNat.blt 8) (cond (h1 (h2[addO (t11.toNat * 4) 0]?.getD 0).toNat != t1) (cond (fits IntKind.i64 (t11 + 1)) (kn t9 t10 (t11 + 1)) (z)) (cond (t8_n.beq h2.length && (decide (0 ≤ t11) && decide (t11 < (↑t8_l : Int)))) (cond (t8_n.beq h2.length) (cond (t8_n.beq h2.length && ((t11.toNat * 4 % 4).beq 0 && (t11.toNat * 4 + 4).ble h2.length)) (cond (h2[addO (t11.toNat * 4) 2]?.getD 0 == 1) (cond (fits IntKind.i64 (t11 + 1)) (kn t9 t10 (t11 + 1)) (z)) (cond (t8_n.beq h2.length && (decide (0 ≤ t11) && decide (t11 < (↑t8_l : Int)))) (cond (t8_n.beq h2.length) (cond (t8_n.beq h2.length && ((t11.toNat * 4 % 4).beq 0 && (t11.toNat * 4 + 4).ble h2.length)) (cond (h2[addO (t11.toNat * 4) 2]?.getD 0 == 2) (cond (fits IntKind.i64 (t11 + 1)) (kn t9 t10 (t11 + 1)) (z)) (cond (t8_n.beq h2.length && (decide (0 ≤ t11) && decide (t11 < (↑t8_l : Int)))) (cond (t8_n.beq h2.length) (cond (t8_n.beq h2.length && ((t11.toNat * 4 % 4).beq 0 && (t11.toNat * 4 + 4).ble h2.length)) (cond (t8_n.beq h2.length && (decide (0 ≤ t11) && decide (t11 < (↑t8_l : Int)))) (cond (t8_n.beq h2.length) (cond (t8_n.beq h2.length && ((t11.toNat * 4 % 4).beq 0 && (t11.toNat * 4 + 4).ble h2.length)) (cond ((h2[addO (t11.toNat * 4) 3]?.getD 0 != 0) == (h2[addO (t11.toNat * 4) 2]?.getD 0 == 3)) (cond (fits IntKind.i64 (t9 + 1)) (cond (fits IntKind.i64 (t11 + 1)) (kn (t9 + 1) t10 (t11 + 1)) (z)) (z)) (cond (fits IntKind.i64 (t10 + 1)) (cond (fits IntKind.i64 (t11 + 1)) (kn t9 (t10 + 1) (t11 + 1)) (z)) (z))) (z)) (z)) (z)) (z)) (z)) (z))) (z)) (z)) (z))) (z)) (z)) (z))) (z)) (z)) (z)) (z)) (z)) (cond (t8_n.beq h2.length && (decide (0 ≤ t11) && decide (t11 < (↑t8_l : Int)))) (cond (t8_n.beq h2.length) (cond (t8_n.beq h2.length && ((t11.toNat * 4 % 4).beq 0 && (t11.toNat * 4 + 4).ble h2.length)) (cond (h2[addO (t11.toNat * 4) 2]?.getD 0 == 1) (cond (fits IntKind.i64 (t11 + 1)) (kn t9 t10 (t11 + 1)) (z)) (cond (t8_n.beq h2.length && (decide (0 ≤ t11) && decide (t11 < (↑t8_l : Int)))) (cond (t8_n.beq h2.length) (cond (t8_n.beq h2.length && ((t11.toNat * 4 % 4).beq 0 && (t11.toNat * 4 + 4).ble h2.length)) (cond (h2[addO (t11.toNat * 4) 2]?.getD 0 == 2) (cond (fits IntKind.i64 (t11 + 1)) (kn t9 t10 (t11 + 1)) (z)) (cond (t8_n.beq h2.length && (decide (0 ≤ t11) && decide (t11 < (↑t8_l : Int)))) (cond (t8_n.beq h2.length) (cond (t8_n.beq h2.length && ((t11.toNat * 4 % 4).beq 0 && (t11.toNat * 4 + 4).ble h2.length)) (cond (t8_n.beq h2.length && (decide (0 ≤ t11) && decide (t11 < (↑t8_l : Int)))) (cond (t8_n.beq h2.length) (cond (t8_n.beq h2.length && ((t11.toNat * 4 % 4).beq 0 && (t11.toNat * 4 + 4).ble h2.length)) (cond ((h2[addO (t11.toNat * 4) 3]?.getD 0 != 0) == (h2[addO (t11.toNat * 4) 2]?.getD 0 == 3)) (cond (fits IntKind.i64 (t9 + 1)) (cond (fits IntKind.i64 (t11 + 1)) (kn (t9 + 1) t10 (t11 + 1)) (z)) (z)) (cond (fits IntKind.i64 (t10 + 1)) (cond (fits IntKind.i64 (t11 + 1)) (kn t9 (t10 + 1) (t11 + 1)) (z)) (z))) (z)) (z)) (z)) (z)) (z)) (z))) (z)) (z)) (z))) (z)) (z)) (z))) (k0 t9 t10)) (z)
def s_l07Cusps_l0 {β : Type} (z : β) (t1 : Int) (t8_n : Nat) (t8_l : Nat) (t8_c : Nat) (h0_0 : Int) (h0_1 : Nat → Int) (h0_2 : Nat → Int) (h1 : Nat → Int) (h2 : List Int) : Nat → Int → Int → Int → (Int → Int → β) → β
  | 0, _, _, _, _ => z
  | m + 1, t9, t10, t11, k0 => s_l07Cusps_l0_s z t1 t8_n t8_l t8_c h0_0 h0_1 h0_2 h1 h2 t9 t10 t11 (fun t9 t10 t11 => s_l07Cusps_l0 z t1 t8_n t8_l t8_c h0_0 h0_1 h0_2 h1 h2 m t9 t10 t11 k0) k0

/-- spec.l07Cusps -/
def s_l07Cusps {β : Type} (z : β) (N : Nat) (g_0 : Int) (g_1 : Nat → Int) (g_2 : Nat → Int) (a1 : Int) (k0 : Int → Int → β) : β :=
  s_l01Components z N g_0 g_1 g_2 (fun q7 q8 => s_l07Corners z N g_0 g_1 g_2 (fun q9 q10 q11 q12 => s_l07Cusps_l0 z a1 q9 q10 q11 g_0 g_1 g_2 q7 q12 N 0 0 0 (fun q13 q14 => k0 q13 q14)))

/-- spec.CountCusps -/
def s_CountCusps {β : Type} (z : β) (N : Nat) (g_0 : Int) (g_1 : Nat → Int) (g_2 : Nat → Int) (k0 : Int → Int → β) : β :=
  s_l01Is z N g_0 g_1 g_2 (fun q6 => cond (!q6) (k0 0 1) (s_l07Cusps z N g_0 g_1 g_2 (-1) (fun q7 q8 => cond (fits IntKind.i64 (q7 + q8)) (k0 (q7 + q8) 0) (z))))

/-- (impl.Corner).isCusp -/
def i_Corner_isCusp {β : Type} (z : β) (N : Nat) (c_0 : Int) (c_1 : Int) (c_2 : Int) (c_3 : Bool) (k0 : Bool → β) : β :=
  cond (c_2 == 0) (k0 true) (k0 (c_2 == 3))

/-- (impl.Corner).letter -/
def i_Corner_letter {β : Type} (z : β) (N : Nat) (c_0 : Int) (c_1 : Int) (c_2 : Int) (c_3 : Bool) (k0 : (List UInt8) → β) : β :=
  i_Corner_isCusp z N c_0 c_1 c_2 c_3 (fun q7 => cond (!q7) (k0 ([])) (cond (c_3 == (c_2 == 0)) (k0 ([117])) (k0 ([100]))))

/-- (*impl.front).add -/
def i_front_add {β : Type} (z : β) (N : Nat) (c_0 : Int) (c_1 : Int) (c_2 : Int) (c_3 : Bool) (h0 : Nat → Int) (k0 : (Nat → Int) → β) : β :=
  i_Corner_isCusp z N c_0 c_1 c_2 c_3 (fun q8 => cond (q8) (cond (fits IntKind.i64 (h0 0 + 1)) (i_Corner_letter z N c_0 c_1 c_2 c_3 (fun q9 => cond (q9 == [117]) (cond (fits IntKind.i64 (upd h0 0 (h0 0 + 1) 1 + 1)) (k0 (upd (upd h0 0 (h0 0 + 1)) 1 (upd h0 0 (h0 0 + 1) 1 + 1))) (z)) (cond (q9 == [100]) (cond (fits IntKind.i64 (upd h0 0 (h0 0 + 1) 2 + 1)) (k0 (upd (upd h0 0 (h0 0 + 1)) 2 (upd h0 0 (h0 0 + 1) 2 + 1))) (z)) (k0 (upd h0 0 (h0 0 + 1)))))) (z)) (i_Corner_letter z N c_0 c_1 c_2 c_3 (fun q9 => cond (q9 == [117]) (cond (fits IntKind.i64 (h0 1 + 1)) (k0 (upd h0 1 (h0 1 + 1))) (z)) (cond (q9 == [100]) (cond (fits IntKind.i64 (h0 2 + 1)) (k0 (upd h0 2 (h0 2 + 1))) (z)) (k0 h0)))))

/-- (impl.Grid).front, loop -/
def i_Grid_front_l0_s {β : Type} (z : β) (N : Nat) (t8_n : Nat) (t8_l : Nat) (t8_c : Nat) (t9 : Int) (h0_0 : Int) (h0_1 : Nat → Int) (h0_2 : Nat → Int) (h1 : Nat → Int) (h3 : List Int) (t10 : Int) (h2 : Nat → Int) (kn : Int → (Nat → Int) → β) (k0 : (Nat → Int) → β) : β :=
  cond (decide (t10 < t9)) (cond (t8_n.beq h3.length && (decide (0 ≤ t10) && decide (t10 < (↑t8_l : Int)))) (cond (t8_n.beq h3.length && ((t10.toNat * 4 % 4).beq 0 && (t10.toNat * 4 + 4).ble h3.length)) (i_front_add z N (h3[addO (t10.toNat * 4) 0]?.getD 0) (h3[addO (t10.toNat * 4) 1]?.getD 0) (h3[addO (t10.toNat * 4) 2]?.getD 0) (h3[addO (t10.toNat * 4) 3]?.getD 0 != 0) h2 (fun q15 => cond (fits IntKind.i64 (t10 + 1)) (kn (t10 + 1) q15) (z))) (z)) (z)) (k0 h2)
def i_Grid_front_l0 {β : Type} (z : β) (N : Nat) (t8_n : Nat) (t8_l : Nat) (t8_c : Nat) (t9 : Int) (h0_0 : Int) (h0_1 : Nat → Int) (h0_2 : Nat → Int) (h1 : Nat → Int) (h3 : List Int) : Nat → Int → (Nat → Int) → ((Nat → Int) → β) → β
  | 0, _, _, _ => z
  | m + 1, t10, h2, k0 => i_Grid_front_l0_s z N t8_n t8_l t8_c t9 h0_0 h0_1 h0_2 h1 h3 t10 h2 (fun t10 h2 => i_Grid_front_l0 z N t8_n t8_l t8_c t9 h0_0 h0_1 h0_2 h1 h3 m t10 h2 k0) k0

/-- (impl.Grid).front -/
def i_Grid_front {β : Type} (z : β) (N : Nat) (g_0 : Int) (g_1 : Nat → Int) (g_2 : Nat → Int) (k0 : (Nat → Int) → β) : β :=
  i_Grid_corners z N g_0 g_1 g_2 (fun q6 q7 q8 q9 => cond (q7.ble 9223372036854775807) (i_Grid_front_l0 z N q6 q7 q8 (↑q7 : Int) g_0 g_1 g_2 (fun (x : Nat) => 0) q9 N 0 (fun (x : Nat) => 0) (fun q10 => k0 q10)) (z))

/-- impl.CountCusps$1 -/
def i_CountCusps_1 {β : Type} (z : β) (N : Nat) (g_0 : Int) (g_1 : Nat → Int) (g_2 : Nat → Int) (k0 : Int → β) : β :=
  i_Grid_front z N g_0 g_1 g_2 (fun q6 => k0 (q6 0))

/-- impl.whole[int64] -/
def i_whole_int64_v1 {β : Type} (z : β) (N : Nat) (g_0 : Int) (g_1 : Nat → Int) (g_2 : Nat → Int) (k0 : Int → Int → β) : β :=
  i_IsGrid z N g_0 g_1 g_2 (fun q6 => cond (!q6) (k0 0 1) (i_CountCusps_1 z N g_0 g_1 g_2 (fun q7 => k0 q7 0)))

/-- impl.CountCusps -/
def i_CountCusps {β : Type} (z : β) (N : Nat) (g_0 : Int) (g_1 : Nat → Int) (g_2 : Nat → Int) (k0 : Int → Int → β) : β :=
  i_whole_int64_v1 z N g_0 g_1 g_2 (fun q6 q7 => k0 q6 q7)

/-- laws.FnExactCountCusps -/
def w_FnExactCountCusps {β : Type} (z : β) (N : Nat) (aG_0 : Int) (aG_1 : Nat → Int) (aG_2 : Nat → Int) (k0 : Bool → β) : β :=
  w_toGrid z N aG_0 aG_1 aG_2 (fun q6 q7 => s_CountCusps z N aG_0 q6 q7 (fun q8 q9 => w_toGrid z N aG_0 aG_1 aG_2 (fun q10 q11 => i_CountCusps z N aG_0 q10 q11 (fun q12 q13 => cond (q12 != q8) (k0 false) (cond (q13 != q9) (k0 false) (k0 true))))))
end Go.AM

set_option maxRecDepth 100000
namespace Go.AM
/-- spec.l03Cross -/
def s_l03Cross {β : Type} (z : β) (N : Nat) (g_0 : Int) (g_1 : Nat → Int) (g_2 : Nat → Int) (i : Int) (r_ : Int) (k0 : Int → β) : β :=
  cond (decide (0 ≤ i) && decide (i < (↑8 : Int))) (cond (i.toNat.blt 8) (cond (decide (0 ≤ i) && decide (i < (↑8 : Int))) (cond (i.toNat.blt 8) (s_l01Row z N g_1 g_0 r_ (fun q8 => s_l01Row z N g_2 g_0 r_ (fun q9 => cond (fits IntKind.i64 ((bif decide (g_2 i.toNat < g_1 i.toNat) then g_2 i.toNat else g_1 i.toNat) + 1)) (cond (fits IntKind.i64 ((bif decide (g_1 i.toNat < g_2 i.toNat) then g_2 i.toNat else g_1 i.toNat) - 1)) (s_l01In z N r_ ((bif decide (g_2 i.toNat < g_1 i.toNat) then g_2 i.toNat else g_1 i.toNat) + 1) ((bif decide (g_1 i.toNat < g_2 i.toNat) then g_2 i.toNat else g_1 i.toNat) - 1) (fun q10 => cond (!q10) (k0 0) (cond (fits IntKind.i64 ((bif decide (q9 < q8) then q9 else q8) + 1)) (cond (fits IntKind.i64 ((bif decide (q8 < q9) then q9 else q8) - 1)) (s_l01In z N i ((bif decide (q9 < q8) then q9 else q8) + 1) ((bif decide (q8 < q9) then q9 else q8) - 1) (fun q11 => cond (!q11) (k0 0) (cond (decide (g_1 i.toNat < g_2 i.toNat) == decide (q8 < q9)) (k0 1) (k0 (-1))))) (z)) (z)))) (z)) (z)))) (z)) (z)) (z)) (z)

/-- spec.l03Crossings, loop -/
def s_l03Crossings_l1_s {β : Type} (z : β) (N : Nat) (i : Int) (h0_0 : Int) (h0_1 : Nat → Int) (h0_2 : Nat → Int) (out_n : Nat) (out_l : Nat) (out_c : Nat) (r_ : Int) (h1 : List Int) (kn : Nat → Nat → Nat → Int → (List Int) → β) (k0 : Nat → Nat → Nat → (List Int) → β) : β :=
  cond (decide (r_ < h0_0)) (s_l03Cross z N h0_0 h0_1 h0_2 i r_ (fun q13 => cond (q13 != 0) (cond (out_n.beq h1.length && true) (cond ((out_l + 1).ble 1099511627776 && ((out_l + 1) * 24).ble 1099511627776) (cond ((out_l + 1).ble out_c) (cond (out_n.beq h1.length && (0 + out_l * 3 + 3).ble h1.length) (cond (fits IntKind.i64 (r_ + 1)) (kn out_n (out_l + 1) out_c (r_ + 1) (List.take (0 + out_l * 3) h1 ++ (List.map (upd (upd (upd (fun (x : Nat) => 0) 0 i) 1 r_) 2 q13) (List.range 3) ++ List.drop (0 + out_l * 3 + 3) h1))) (z)) (z)) (cond ((out_l * 3).beq h1.length) (cond (fits IntKind.i64 (r_ + 1)) (kn ((h1 ++ List.map (upd (upd (upd (fun (x : Nat) => 0) 0 i) 1 r_) 2 q13) (List.range 3)).length) (out_l + 1) (out_l + 1) (r_ + 1) (h1 ++ List.map (upd (upd (upd (fun (x : Nat) => 0) 0 i) 1 r_) 2 q13) (List.range 3))) (z)) (z))) (z)) (z)) (cond (fits IntKind.i64 (r_ + 1)) (kn out_n out_l out_c (r_ + 1) h1) (z)))) (k0 out_n out_l out_c h1)
def s_l03Crossings_l1 {β : Type} (z : β) (N : Nat) (i : Int) (h0_0 : Int) (h0_1 : Nat → Int) (h0_2 : Nat → Int) : Nat → Nat → Nat → Nat → Int → (List Int) → (Nat → Nat → Nat → (List Int) → β) → β
  | 0, _, _, _, _, _, _ => z
  | m + 1, out_n, out_l, out_c, r_, h1, k0 => s_l03Crossings_l1_s z N i h0_0 h0_1 h0_2 out_n out_l out_c r_ h1 (fun out_n out_l out_c r_ h1 => s_l03Crossings_l1 z N i h0_0 h0_1 h0_2 m out_n out_l out_c r_ h1 k0) k0

/-- spec.l03Crossings, loop -/
def s_l03Crossings_l0_s {β : Type} (z : β) (N : Nat) (h0_0 : Int) (h0_1 : Nat → Int) (h0_2 : Nat → Int) (out_n : Nat) (out_l : Nat) (out_c : Nat) (i : Int) (h1 : List Int) (kn : Nat → Nat → Nat → Int → (List Int) → β) (k0 : Nat → Nat → Nat → (List Int) → β) : β :=
  cond (decide (i < h0_0)) (s_l03Crossings_l1 z N i h0_0 h0_1 h0_2 N out_n out_l out_c 0 h1 (fun q12 q13 q14 q15 => cond (fits IntKind.i64 (i + 1)) (kn q12 q13 q14 (i + 1) q15) (z))) (k0 out_n out_l out_c h1)
def s_l03Crossings_l0 {β : Type} (z : β) (N : Nat) (h0_0 : Int) (h0_1 : Nat → Int) (h0_2 : Nat → Int) : Nat → Nat → Nat → Nat → Int → (List Int) → (Nat → Nat → Nat → (List Int) → β) → β
  | 0, _, _, _, _, _, _ => z
  | m + 1, out_n, out_l, out_c, i, h1, k0 => s_l03Crossings_l0_s z N h0_0 h0_1 h0_2 out_n out_l out_c i h1 (fun out_n out_l out_c i h1 => s_l03Crossings_l0 z N h0_0 h0_1 h0_2 m out_n out_l out_c i h1 k0) k0

/-- spec.l03Crossings -/
def s_l03Crossings {β : Type} (z : β) (N : Nat) (g_0 : Int) (g_1 : Nat → Int) (g_2 : Nat → Int) (k0 : Nat → Nat → Nat → (List Int) → β) : β :=
  s_l03Crossings_l0 z N g_0 g_1 g_2 N 0 0 0 0 (List.replicate 0 0) (fun q6 q7 q8 q9 => k0 q6 q7 q8 q9)

/-- spec.l03Writhe, loop -/
def s_l03Writhe_l0_s {β : Type} (z : β) (list_n : Nat) (list_l : Nat) (list_c : Nat) (h0_0 : Int) (h0_1 : Nat → Int) (h0_2 : Nat → Int) (h1 : List Int) (out : Int) (i : Int) (kn : Int → Int → β) (k0 : Int → β) : β :=
  cond (list_l.ble 9223372036854775807) (cond (decide (i < (↑list_l : Int))) (cond (list_n.beq h1.length && (decide (0 ≤ i) && decide (i < (↑list_l : Int)))) (cond (list_n.beq h1.length && (addO (i.toNat * 3) 2).blt h1.length) (cond (fits IntKind.i64 (out + h1[addO (i.toNat * 3) 2]?.getD 0)) (cond (fits IntKind.i64 (i + 1)) (kn (out + h1[addO (i.toNat * 3) 2]?.getD 0) (i + 1)) (z)) (z)) (z)) (z)) (k0 out)) (z)
def s_l03Writhe_l0 {β : Type} (z : β) (list_n : Nat) (list_l : Nat) (list_c : Nat) (h0_0 : Int) (h0_1 : Nat → Int) (h0_2 : Nat → Int) (h1 : List Int) : Nat → Int → Int → (Int → β) → β
  | 0, _, _, _ => z
  | m + 1, out, i, k0 => s_l03Writhe_l0_s z list_n list_l list_c h0_0 h0_1 h0_2 h1 out i (fun out i => s_l03Writhe_l0 z list_n list_l list_c h0_0 h0_1 h0_2 h1 m out i k0) k0

/-- spec.l03Writhe -/
def s_l03Writhe {β : Type} (z : β) (N : Nat) (g_0 : Int) (g_1 : Nat → Int) (g_2 : Nat → Int) (k0 : Int → β) : β :=
  s_l03Crossings z N g_0 g_1 g_2 (fun q6 q7 q8 q9 => s_l03Writhe_l0 z q6 q7 q8 g_0 g_1 g_2 q9 N 0 0 (fun q10 => k0 q10))

/-- spec.l07Numbers -/
def s_l07Numbers {β : Type} (z : β) (N : Nat) (g_0 : Int) (g_1 : Nat → Int) (g_2 : Nat → Int) (k0 : Int → Int → β) : β :=
  s_l07Cusps z N g_0 g_1 g_2 (-1) (fun q6 q7 => s_l03Writhe z N g_0 g_1 g_2 (fun q8 => cond (fits IntKind.i64 (-q8)) (cond (fits IntKind.i64 (q6 + q7)) (cond (fits IntKind.i64 ((q6 + q7).tdiv 2)) (cond (fits IntKind.i64 (-q8 - (q6 + q7).tdiv 2)) (cond (fits IntKind.i64 (q6 - q7)) (cond (fits IntKind.i64 ((q6 - q7).tdiv 2)) (k0 (-q8 - (q6 + q7).tdiv 2) ((q6 - q7).tdiv 2)) (z)) (z)) (z)) (z)) (z)) (z)))

/-- spec.RotationOf -/
def s_RotationOf {β : Type} (z : β) (N : Nat) (g_0 : Int) (g_1 : Nat → Int) (g_2 : Nat → Int) (k0 : Int → Int → β) : β :=
  s_l01Is z N g_0 g_1 g_2 (fun q6 => cond (!q6) (k0 0 1) (s_l07Numbers z N g_0 g_1 g_2 (fun q7 q8 => k0 q8 0)))

/-- impl.isBetween -/
def i_isBetween {β : Type} (z : β) (N : Nat) (x : Int) (a : Int) (b : Int) (k0 : Bool → β) : β :=
  cond (decide ((bif decide (b < a) then b else a) < x)) (k0 (decide (x < bif decide (a < b) then b else a))) (k0 false)

/-- (impl.Grid).crossings, loop -/
def i_Grid_crossings_l1_s {β : Type} (z : β) (N : Nat) (t6 : Int) (t21 : Int) (t22 : Int) (t26 : Int) (h0_0 : Int) (h0_1 : Nat → Int) (h0_2 : Nat → Int) (h2 : Nat → Int) (h3 : Nat → Int) (t5_n : Nat) (t5_l : Nat) (t5_c : Nat) (t27 : Int) (h1 : List Int) (kn : Nat → Nat → Nat → Int → (List Int) → β) (k0 : Nat → Nat → Nat → (List Int) → β) : β :=
  cond (decide (t27 < t26)) (cond (decide (0 ≤ t6) && decide (t6 < (↑8 : Int))) (cond (t6.toNat.blt 8) (cond (decide (0 ≤ t6) && decide (t6 < (↑8 : Int))) (cond (t6.toNat.blt 8) (i_isBetween z N t27 (h0_1 t6.toNat) (h0_2 t6.toNat) (fun q18 => cond (!q18) (cond (fits IntKind.i64 (t27 + 1)) (kn t5_n t5_l t5_c (t27 + 1) h1) (z)) (cond (decide (0 ≤ t27) && decide (t27 < (↑8 : Int))) (cond (t27.toNat.blt 8) (cond (decide (0 ≤ t27) && decide (t27 < (↑8 : Int))) (cond (t27.toNat.blt 8) (i_isBetween z N t6 (h2 t27.toNat) (h3 t27.toNat) (fun q19 => cond (!q19) (cond (fits IntKind.i64 (t27 + 1)) (kn t5_n t5_l t5_c (t27 + 1) h1) (z)) (cond (decide (0 ≤ t6) && decide (t6 < (↑8 : Int))) (cond (t6.toNat.blt 8) (cond (decide (0 ≤ t6) && decide (t6 < (↑8 : Int))) (cond (t6.toNat.blt 8) (cond (decide (0 ≤ t27) && decide (t27 < (↑8 : Int))) (cond (t27.toNat.blt 8) (cond (decide (0 ≤ t27) && decide (t27 < (↑8 : Int))) (cond (t27.toNat.blt 8) (cond (decide (h0_1 t6.toNat < h0_2 t6.toNat) != decide (h3 t27.toNat < h2 t27.toNat)) (cond (t5_n.beq h1.length && true) (cond ((t5_l + 1).ble 1099511627776 && ((t5_l + 1) * 24).ble 1099511627776) (cond ((t5_l + 1).ble t5_c) (cond (t5_n.beq h1.length && (0 + t5_l * 3 + 3).ble h1.length) (cond (fits IntKind.i64 (t27 + 1)) (kn t5_n (t5_l + 1) t5_c (t27 + 1) (List.take (0 + t5_l * 3) h1 ++ (List.map (upd (upd (upd (fun (x : Nat) => 0) 0 t6) 1 t27) 2 1) (List.range 3) ++ List.drop (0 + t5_l * 3 + 3) h1))) (z)) (z)) (cond ((t5_l * 3).beq h1.length) (cond (fits IntKind.i64 (t27 + 1)) (kn ((h1 ++ List.map (upd (upd (upd (fun (x : Nat) => 0) 0 t6) 1 t27) 2 1) (List.range 3)).length) (t5_l + 1) (t5_l + 1) (t27 + 1) (h1 ++ List.map (upd (upd (upd (fun (x : Nat) => 0) 0 t6) 1 t27) 2 1) (List.range 3))) (z)) (z))) (z)) (z)) (cond (t5_n.beq h1.length && true) (cond ((t5_l + 1).ble 1099511627776 && ((t5_l + 1) * 24).ble 1099511627776) (cond ((t5_l + 1).ble t5_c) (cond (t5_n.beq h1.length && (0 + t5_l * 3 + 3).ble h1.length) (cond (fits IntKind.i64 (t27 + 1)) (kn t5_n (t5_l + 1) t5_c (t27 + 1) (List.take (0 + t5_l * 3) h1 ++ (List.map (upd (upd (upd (fun (x : Nat) => 0) 0 t6) 1 t27) 2 (-1)) (List.range 3) ++ List.drop (0 + t5_l * 3 + 3) h1))) (z)) (z)) (cond ((t5_l * 3).beq h1.length) (cond (fits IntKind.i64 (t27 + 1)) (kn ((h1 ++ List.map (upd (upd (upd (fun (x : Nat) => 0) 0 t6) 1 t27) 2 (-1)) (List.range 3)).length) (t5_l + 1) (t5_l + 1) (t27 + 1) (h1 ++ List.map (upd (upd (upd (fun (x : Nat) => 0) 0 t6) 1 t27) 2 (-1)) (List.range 3))) (z)) (z))) (z)) (z))) (z)) (z)) (z)) (z)) (z)) (z)) (z)) (z)))) (z)) (z)) (z)) (z)))) (z)) (z)) (z)) (z)) (k0 t5_n t5_l t5_c h1)
def i_Grid_crossings_l1 {β : Type} (z : β) (N : Nat) (t6 : Int) (t21 : Int) (t22 : Int) (t26 : Int) (h0_0 : Int) (h0_1 : Nat → Int) (h0_2 : Nat → Int) (h2 : Nat → Int) (h3 : Nat → Int) : Nat → Nat → Nat → Nat → Int → (List Int) → (Nat → Nat → Nat → (List Int) → β) → β
  | 0, _, _, _, _, _, _ => z
  | m + 1, t5_n, t5_l, t5_c, t27, h1, k0 => i_Grid_crossings_l1_s z N t6 t21 t22 t26 h0_0 h0_1 h0_2 h2 h3 t5_n t5_l t5_c t27 h1 (fun t5_n t5_l t5_c t27 h1 => i_Grid_crossings_l1 z N t6 t21 t22 t26 h0_0 h0_1 h0_2 h2 h3 m t5_n t5_l t5_c t27 h1 k0) k0

/-- (impl.Grid).crossings, loop -/
def i_Grid_crossings_l0_s {β : Type} (z : β) (N : Nat) (t21 : Int) (h0_0 : Int) (h0_1 : Nat → Int) (h0_2 : Nat → Int) (h2 : Nat → Int) (h3 : Nat → Int) (t5_n : Nat) (t5_l : Nat) (t5_c : Nat) (t22 : Int) (h1 : List Int) (kn : Nat → Nat → Nat → Int → (List Int) → β) (k0 : Nat → Nat → Nat → (List Int) → β) : β :=
  cond (decide (t22 < t21)) (i_Grid_n z N h0_0 h0_1 h0_2 (i_Grid_crossings_l1 z N t22 t21 t22 h0_0 h0_0 h0_1 h0_2 h2 h3 N t5_n t5_l t5_c 0 h1 (fun q15 q16 q17 q18 => cond (fits IntKind.i64 (t22 + 1)) (kn q15 q16 q17 (t22 + 1) q18) (z)))) (k0 t5_n t5_l t5_c h1)
def i_Grid_crossings_l0 {β : Type} (z : β) (N : Nat) (t21 : Int) (h0_0 : Int) (h0_1 : Nat → Int) (h0_2 : Nat → Int) (h2 : Nat → Int) (h3 : Nat → Int) : Nat → Nat → Nat → Nat → Int → (List Int) → (Nat → Nat → Nat → (List Int) → β) → β
  | 0, _, _, _, _, _, _ => z
  | m + 1, t5_n, t5_l, t5_c, t22, h1, k0 => i_Grid_crossings_l0_s z N t21 h0_0 h0_1 h0_2 h2 h3 t5_n t5_l t5_c t22 h1 (fun t5_n t5_l t5_c t22 h1 => i_Grid_crossings_l0 z N t21 h0_0 h0_1 h0_2 h2 h3 m t5_n t5_l t5_c t22 h1 k0) k0

/-- (impl.Grid).crossings -/
def i_Grid_crossings {β : Type} (z : β) (N : Nat) (g_0 : Int) (g_1 : Nat → Int) (g_2 : Nat → Int) (k0 : Nat → Nat → Nat → (List Int) → β) : β :=
  i_Grid_places z N g_0 g_1 g_2 g_1 (fun q6 => i_Grid_places z N g_0 g_1 g_2 g_2 (fun q7 => i_Grid_n z N g_0 g_1 g_2 (i_Grid_crossings_l0 z N g_0 g_0 g_1 g_2 q6 q7 N 0 0 0 0 (List.replicate 0 0) (fun q8 q9 q10 q11 => k0 q8 q9 q10 q11))))

/-- (impl.Grid).writhe, loop -/
def i_Grid_writhe_l0_s {β : Type} (z : β) (t7_n : Nat) (t7_l : Nat) (t7_c : Nat) (t8 : Int) (h0_0 : Int) (h0_1 : Nat → Int) (h0_2 : Nat → Int) (h1 : List Int) (sum : Int) (t9 : Int) (kn : Int → Int → β) (k0 : Int → β) : β :=
  cond (decide (t9 < t8)) (cond (t7_n.beq h1.length && (decide (0 ≤ t9) && decide (t9 < (↑t7_l : Int)))) (cond (t7_n.beq h1.length && (t9.toNat * 3 + 3).ble h1.length) (cond (fits IntKind.i64 (sum + h1[addO (t9.toNat * 3) 2]?.getD 0)) (cond (fits IntKind.i64 (t9 + 1)) (kn (sum + h1[addO (t9.toNat * 3) 2]?.getD 0) (t9 + 1)) (z)) (z)) (z)) (z)) (k0 sum)
def i_Grid_writhe_l0 {β : Type} (z : β) (t7_n : Nat) (t7_l : Nat) (t7_c : Nat) (t8 : Int) (h0_0 : Int) (h0_1 : Nat → Int) (h0_2 : Nat → Int) (h1 : List Int) : Nat → Int → Int → (Int → β) → β
  | 0, _, _, _ => z
  | m + 1, sum, t9, k0 => i_Grid_writhe_l0_s z t7_n t7_l t7_c t8 h0_0 h0_1 h0_2 h1 sum t9 (fun sum t9 => i_Grid_writhe_l0 z t7_n t7_l t7_c t8 h0_0 h0_1 h0_2 h1 m sum t9 k0) k0

/-- (impl.Grid).writhe -/
def i_Grid_writhe {β : Type} (z : β) (N : Nat) (g_0 : Int) (g_1 : Nat → Int) (g_2 : Nat → Int) (k0 : Int → β) : β :=
  i_Grid_crossings z N g_0 g_1 g_2 (fun q6 q7 q8 q9 => cond (q7.ble 9223372036854775807) (i_Grid_writhe_l0 z q6 q7 q8 (↑q7 : Int) g_0 g_1 g_2 q9 N 0 0 (fun q10 => k0 q10)) (z))

/-- (impl.front).numbers -/
def i_front_numbers {β : Type} (z : β) (N : Nat) (f : Nat → Int) (writhe : Int) (k0 : (List Int) → β) : β :=
  cond (fits IntKind.i64 (-writhe)) (cond (fits IntKind.i64 ((f 0).tdiv 2)) (cond (fits IntKind.i64 (-writhe - (f 0).tdiv 2)) (cond (fits IntKind.i64 (f 2 - f 1)) (cond (fits IntKind.i64 ((f 2 - f 1).tdiv 2)) (k0 (((List.replicate 2 0).set 0 (-writhe - (f 0).tdiv 2)).set 1 ((f 2 - f 1).tdiv 2))) (z)) (z)) (z)) (z)) (z)

/-- (impl.Grid).numbers -/
def i_Grid_numbers {β : Type} (z : β) (N : Nat) (g_0 : Int) (g_1 : Nat → Int) (g_2 : Nat → Int) (k0 : (List Int) → β) : β :=
  i_Grid_front z N g_0 g_1 g_2 (fun q6 => i_Grid_writhe z N g_0 g_1 g_2 (fun q7 => i_front_numbers z N q6 q7 (fun q8 => k0 q8)))

/-- impl.RotationOf$1 -/
def i_RotationOf_1 {β : Type} (z : β) (N : Nat) (g_0 : Int) (g_1 : Nat → Int) (g_2 : Nat → Int) (k0 : Int → β) : β :=
  i_Grid_numbers z N g_0 g_1 g_2 (fun q6 => cond (Nat.beq 2 q6.length && true) (cond (Nat.beq 2 q6.length && Nat.blt 1 q6.length) (k0 (q6[1]?.getD 0)) (z)) (z))

/-- impl.whole[int64] -/
def i_whole_int64_v1_s2 {β : Type} (z : β) (N : Nat) (g_0 : Int) (g_1 : Nat → Int) (g_2 : Nat → Int) (k0 : Int → Int → β) : β :=
  i_IsGrid z N g_0 g_1 g_2 (fun q6 => cond (!q6) (k0 0 1) (i_RotationOf_1 z N g_0 g_1 g_2 (fun q7 => k0 q7 0)))

/-- impl.RotationOf -/
def i_RotationOf {β : Type} (z : β) (N : Nat) (g_0 : Int) (g_1 : Nat → Int) (g_2 : Nat → Int) (k0 : Int → Int → β) : β :=
  i_whole_int64_v1_s2 z N g_0 g_1 g_2 (fun q6 q7 => k0 q6 q7)

/-- laws.FnExactRotationOf -/
def w_FnExactRotationOf {β : Type} (z : β) (N : Nat) (aG_0 : Int) (aG_1 : Nat → Int) (aG_2 : Nat → Int) (k0 : Bool → β) : β :=
  w_toGrid z N aG_0 aG_1 aG_2 (fun q6 q7 => s_RotationOf z N aG_0 q6 q7 (fun q8 q9 => w_toGrid z N aG_0 aG_1 aG_2 (fun q10 q11 => i_RotationOf z N aG_0 q10 q11 (fun q12 q13 => cond (q12 != q8) (k0 false) (cond (q13 != q9) (k0 false) (k0 true))))))
end Go.AM

set_option maxRecDepth 100000
namespace Go.AM
/-- spec.CountTiles, loop -/
def s_CountTiles_l0_s {β : Type} (z : β) (h0_0 : Int) (h0_1 : Nat → Int) (k : Int) (h1 : Nat → Int) (kn : Int → (Nat → Int) → β) (k0 : (Nat → Int) → β) : β :=
  cond (fits IntKind.i64 (h0_0 * h0_0)) (cond (decide (k < h0_0 * h0_0)) (cond (decide (0 ≤ k) && decide (k < (↑64 : Int))) (cond (k.toNat.blt 64) (cond (decide (0 ≤ h0_1 k.toNat) && decide (h0_1 k.toNat < (↑8 : Int))) (cond ((h0_1 k.toNat).toNat.blt 8) (cond (fits IntKind.i64 (h1 (h0_1 k.toNat).toNat + 1)) (cond (decide (0 ≤ h0_1 k.toNat) && decide (h0_1 k.toNat < (↑8 : Int))) (cond ((h0_1 k.toNat).toNat.blt 8) (cond (fits IntKind.i64 (k + 1)) (kn (k + 1) (upd h1 (h0_1 k.toNat).toNat (h1 (h0_1 k.toNat).toNat + 1))) (z)) (z)) (z)) (z)) (z)) (z)) (z)) (z)) (k0 h1)) (z)
def s_CountTiles_l0 {β : Type} (z : β) (h0_0 : Int) (h0_1 : Nat → Int) : Nat → Int → (Nat → Int) → ((Nat → Int) → β) → β
  | 0, _, _, _ => z
  | m + 1, k, h1, k0 => s_CountTiles_l0_s z h0_0 h0_1 k h1 (fun k h1 => s_CountTiles_l0 z h0_0 h0_1 m k h1 k0) k0

/-- spec.CountTiles -/
def s_CountTiles {β : Type} (z : β) (N : Nat) (m_0 : Int) (m_1 : Nat → Int) (k0 : Int → β) (k1 : Int → (Nat → Int) → β) : β :=
  s_l09Is z N m_0 m_1 (fun q5 => cond (!q5) (k0 1) (s_CountTiles_l0 z m_0 m_1 N 0 (fun (x : Nat) => 0) (fun q6 => k1 0 q6)))

/-- impl.CountTiles, loop -/
def i_CountTiles_l0_s {β : Type} (z : β) (t17_n : Nat) (t17_l : Nat) (t17_c : Nat) (t18 : Int) (h0_0 : Int) (h0_1 : Nat → Int) (t19 : Int) (h1 : Nat → Int) (kn : Int → (Nat → Int) → β) (k0 : (Nat → Int) → β) : β :=
  cond (decide (t19 < t18)) (cond (t17_n.beq 64 && (decide (0 ≤ t19) && decide (t19 < (↑t17_l : Int)))) (cond (t17_n.beq 64 && t19.toNat.blt 64) (cond (decide (0 ≤ h0_1 t19.toNat) && decide (h0_1 t19.toNat < (↑8 : Int))) (cond ((h0_1 t19.toNat).toNat.blt 8) (cond (fits IntKind.i64 (h1 (h0_1 t19.toNat).toNat + 1)) (cond (decide (0 ≤ h0_1 t19.toNat) && decide (h0_1 t19.toNat < (↑8 : Int))) (cond ((h0_1 t19.toNat).toNat.blt 8) (cond (fits IntKind.i64 (t19 + 1)) (kn (t19 + 1) (upd h1 (h0_1 t19.toNat).toNat (h1 (h0_1 t19.toNat).toNat + 1))) (z)) (z)) (z)) (z)) (z)) (z)) (z)) (z)) (k0 h1)
def i_CountTiles_l0 {β : Type} (z : β) (t17_n : Nat) (t17_l : Nat) (t17_c : Nat) (t18 : Int) (h0_0 : Int) (h0_1 : Nat → Int) : Nat → Int → (Nat → Int) → ((Nat → Int) → β) → β
  | 0, _, _, _ => z
  | m + 1, t19, h1, k0 => i_CountTiles_l0_s z t17_n t17_l t17_c t18 h0_0 h0_1 t19 h1 (fun t19 h1 => i_CountTiles_l0 z t17_n t17_l t17_c t18 h0_0 h0_1 m t19 h1 k0) k0

/-- impl.CountTiles -/
def i_CountTiles {β : Type} (z : β) (N : Nat) (m_0 : Int) (m_1 : Nat → Int) (k0 : Int → β) (k1 : Int → (Nat → Int) → β) : β :=
  i_IsMosaic z N m_0 m_1 (fun q5 => cond (!q5) (k0 1) (cond (fits IntKind.i64 (m_0 * m_0)) (cond (decide (0 ≤ m_0 * m_0) && decide (m_0 * m_0 ≤ (↑64 : Int)) && true) (cond (((m_0 * m_0).toNat - 0).ble 9223372036854775807) (i_CountTiles_l0 z 64 ((m_0 * m_0).toNat - 0) 64 (↑((m_0 * m_0).toNat - 0) : Int) m_0 m_1 N 0 (fun (x : Nat) => 0) (fun q6 => k1 0 q6)) (z)) (z)) (z)))

/-- laws.eqInt64S, loop -/
def w_eqInt64S_l0_s {β : Type} (z : β) (i : Int)  (kn : β) (k0 : β) : β :=
  cond (decide (i < 0)) (z) (k0)
def w_eqInt64S_l0 {β : Type} (z : β) (i : Int) : Nat → β → β
  | 0, _ => z
  | m + 1, k0 => w_eqInt64S_l0_s z i (w_eqInt64S_l0 z i m k0) k0

/-- laws.eqInt64S -/
def w_eqInt64S {β : Type} (z : β) (N : Nat)  (k0 : Bool → β) : β :=
  w_eqInt64S_l0 z 0 N (k0 true)

/-- laws.markInt64S, loop -/
def w_markInt64S_l0_s {β : Type} (z : β) (k : Int) (i : Int)  (kn : β) (k0 : β) : β :=
  cond (decide (i < 0)) (z) (k0)
def w_markInt64S_l0 {β : Type} (z : β) (k : Int) (i : Int) : Nat → β → β
  | 0, _ => z
  | m + 1, k0 => w_markInt64S_l0_s z k i (w_markInt64S_l0 z k i m k0) k0

/-- laws.markInt64S -/
def w_markInt64S {β : Type} (z : β) (N : Nat) (k : Int) (k0 : β) : β :=
  w_markInt64S_l0 z k 0 N k0

/-- laws.heldInt64S, loop -/
def w_heldInt64S_l0_s {β : Type} (z : β) (k : Int) (i : Int)  (kn : β) (k0 : β) : β :=
  cond (decide (i < 0)) (z) (k0)
def w_heldInt64S_l0 {β : Type} (z : β) (k : Int) (i : Int) : Nat → β → β
  | 0, _ => z
  | m + 1, k0 => w_heldInt64S_l0_s z k i (w_heldInt64S_l0 z k i m k0) k0

/-- laws.heldInt64S -/
def w_heldInt64S {β : Type} (z : β) (N : Nat) (k : Int) (k0 : β) : β :=
  w_heldInt64S_l0 z k 0 N k0

/-- laws.eqInt64S, loop -/
def w_eqInt64S_l0_s6_s {β : Type} (z : β) (a_n : Nat) (a_l : Nat) (a_c : Nat) (i : Int) (h0_n : Nat) (h0 : Nat → Int)  (kn : β) (k0 : β) : β :=
  cond (a_l.ble 9223372036854775807) (cond (decide (i < (↑a_l : Int))) (cond (a_n.beq h0_n && (decide (0 ≤ i) && decide (i < (↑a_l : Int)))) (cond (a_n.beq h0_n && i.toNat.blt h0_n) (z) (z)) (z)) (k0)) (z)
def w_eqInt64S_l0_s6 {β : Type} (z : β) (a_n : Nat) (a_l : Nat) (a_c : Nat) (i : Int) (h0_n : Nat) (h0 : Nat → Int) : Nat → β → β
  | 0, _ => z
  | m + 1, k0 => w_eqInt64S_l0_s6_s z a_n a_l a_c i h0_n h0 (w_eqInt64S_l0_s6 z a_n a_l a_c i h0_n h0 m k0) k0

/-- laws.eqInt64S -/
def w_eqInt64S_s8 {β : Type} (z : β) (N : Nat) (a_n : Nat) (a_l : Nat) (a_c : Nat) (h0_n : Nat) (h0 : Nat → Int) (k0 : Bool → β) : β :=
  cond (a_l.ble 9223372036854775807) (cond ((↑a_l : Int) != 0) (k0 false) (w_eqInt64S_l0_s6 z a_n a_l a_c 0 h0_n h0 N (k0 true))) (z)

/-- laws.markInt64S, loop -/
def w_markInt64S_l0_s4_s {β : Type} (z : β) (a_n : Nat) (a_l : Nat) (a_c : Nat) (h0_n : Nat) (k : Int) (i : Int) (h0 : Nat → Int) (kn : Int → Int → (Nat → Int) → β) (k0 : Int → (Nat → Int) → β) : β :=
  cond (a_l.ble 9223372036854775807) (cond (decide (i < (↑a_l : Int))) (cond (a_n.beq h0_n && (decide (0 ≤ i) && decide (i < (↑a_l : Int)))) (cond (a_n.beq h0_n && i.toNat.blt h0_n) (cond (fits IntKind.i64 (k + 1)) (cond (fits IntKind.i64 (i + 1)) (kn (k + 1) (i + 1) (upd h0 i.toNat k)) (z)) (z)) (z)) (z)) (k0 k h0)) (z)
def w_markInt64S_l0_s4 {β : Type} (z : β) (a_n : Nat) (a_l : Nat) (a_c : Nat) (h0_n : Nat) : Nat → Int → Int → (Nat → Int) → (Int → (Nat → Int) → β) → β
  | 0, _, _, _, _ => z
  | m + 1, k, i, h0, k0 => w_markInt64S_l0_s4_s z a_n a_l a_c h0_n k i h0 (fun k i h0 => w_markInt64S_l0_s4 z a_n a_l a_c h0_n m k i h0 k0) k0

/-- laws.markInt64S -/
def w_markInt64S_s4 {β : Type} (z : β) (N : Nat) (a_n : Nat) (a_l : Nat) (a_c : Nat) (k : Int) (h0_n : Nat) (h0 : Nat → Int) (k0 : Int → (Nat → Int) → β) : β :=
  w_markInt64S_l0_s4 z a_n a_l a_c h0_n N k 0 h0 (fun q9 q10 => k0 q9 q10)

/-- laws.heldInt64S, loop -/
def w_heldInt64S_l0_s4_s {β : Type} (z : β) (a_n : Nat) (a_l : Nat) (a_c : Nat) (h0_n : Nat) (h0 : Nat → Int) (k : Int) (i : Int) (kn : Int → Int → β) (k0 : β) (k1 : Int → β) : β :=
  cond (a_l.ble 9223372036854775807) (cond (decide (i < (↑a_l : Int))) (cond (a_n.beq h0_n && (decide (0 ≤ i) && decide (i < (↑a_l : Int)))) (cond (a_n.beq h0_n && i.toNat.blt h0_n) (cond (h0 i.toNat != k) (k0) (cond (fits IntKind.i64 (k + 1)) (cond (fits IntKind.i64 (i + 1)) (kn (k + 1) (i + 1)) (z)) (z))) (z)) (z)) (k1 k)) (z)
def w_heldInt64S_l0_s4 {β : Type} (z : β) (a_n : Nat) (a_l : Nat) (a_c : Nat) (h0_n : Nat) (h0 : Nat → Int) : Nat → Int → Int → β → (Int → β) → β
  | 0, _, _, _, _ => z
  | m + 1, k, i, k0, k1 => w_heldInt64S_l0_s4_s z a_n a_l a_c h0_n h0 k i (fun k i => w_heldInt64S_l0_s4 z a_n a_l a_c h0_n h0 m k i k0 k1) k0 k1

/-- laws.heldInt64S -/
def w_heldInt64S_s4 {β : Type} (z : β) (N : Nat) (a_n : Nat) (a_l : Nat) (a_c : Nat) (k : Int) (h0_n : Nat) (h0 : Nat → Int) (k0 : Int → β) : β :=
  w_heldInt64S_l0_s4 z a_n a_l a_c h0_n h0 N k 0 (k0 (-1)) (fun q9 => k0 q9)

/-- laws.eqInt64S, loop -/
def w_eqInt64S_l0_s7_s {β : Type} (z : β) (b_n : Nat) (b_l : Nat) (b_c : Nat) (i : Int) (h0_n : Nat) (h0 : Nat → Int)  (kn : β) (k0 : β) : β :=
  cond (decide (i < 0)) (z) (k0)
def w_eqInt64S_l0_s7 {β : Type} (z : β) (b_n : Nat) (b_l : Nat) (b_c : Nat) (i : Int) (h0_n : Nat) (h0 : Nat → Int) : Nat → β → β
  | 0, _ => z
  | m + 1, k0 => w_eqInt64S_l0_s7_s z b_n b_l b_c i h0_n h0 (w_eqInt64S_l0_s7 z b_n b_l b_c i h0_n h0 m k0) k0

/-- laws.eqInt64S -/
def w_eqInt64S_s9 {β : Type} (z : β) (N : Nat) (b_n : Nat) (b_l : Nat) (b_c : Nat) (h0_n : Nat) (h0 : Nat → Int) (k0 : Bool → β) : β :=
  cond (b_l.ble 9223372036854775807) (cond (0 != (↑b_l : Int)) (k0 false) (w_eqInt64S_l0_s7 z b_n b_l b_c 0 h0_n h0 N (k0 true))) (z)

/-- laws.eqInt64S, loop -/
def w_eqInt64S_l0_s8_s {β : Type} (z : β) (a_n : Nat) (a_l : Nat) (a_c : Nat) (b_n : Nat) (b_l : Nat) (b_c : Nat) (h0_n : Nat) (h0 : Nat → Int) (h1_n : Nat) (h1 : Nat → Int) (i : Int) (kn : Int → β) (k0 : β) (k1 : β) : β :=
  cond (a_l.ble 9223372036854775807) (cond (decide (i < (↑a_l : Int))) (cond (a_n.beq h0_n && (decide (0 ≤ i) && decide (i < (↑a_l : Int)))) (cond (a_n.beq h0_n && i.toNat.blt h0_n) (cond (b_n.beq h1_n && (decide (0 ≤ i) && decide (i < (↑b_l : Int)))) (cond (b_n.beq h1_n && i.toNat.blt h1_n) (cond (h0 i.toNat != h1 i.toNat) (k0) (cond (fits IntKind.i64 (i + 1)) (kn (i + 1)) (z))) (z)) (z)) (z)) (z)) (k1)) (z)
def w_eqInt64S_l0_s8 {β : Type} (z : β) (a_n : Nat) (a_l : Nat) (a_c : Nat) (b_n : Nat) (b_l : Nat) (b_c : Nat) (h0_n : Nat) (h0 : Nat → Int) (h1_n : Nat) (h1 : Nat → Int) : Nat → Int → β → β → β
  | 0, _, _, _ => z
  | m + 1, i, k0, k1 => w_eqInt64S_l0_s8_s z a_n a_l a_c b_n b_l b_c h0_n h0 h1_n h1 i (fun i => w_eqInt64S_l0_s8 z a_n a_l a_c b_n b_l b_c h0_n h0 h1_n h1 m i k0 k1) k0 k1

/-- laws.eqInt64S -/
def w_eqInt64S_s10 {β : Type} (z : β) (N : Nat) (a_n : Nat) (a_l : Nat) (a_c : Nat) (b_n : Nat) (b_l : Nat) (b_c : Nat) (h0_n : Nat) (h0 : Nat → Int) (h1_n : Nat) (h1 : Nat → Int) (k0 : Bool → β) : β :=
  cond (a_l.ble 9223372036854775807) (cond (b_l.ble 9223372036854775807) (cond ((↑a_l : Int) != (↑b_l : Int)) (k0 false) (w_eqInt64S_l0_s8 z a_n a_l a_c b_n b_l b_c h0_n h0 h1_n h1 N 0 (k0 false) (k0 true))) (z)) (z)

/-- laws.FnExactCountTiles -/
def w_FnExactCountTiles {β : Type} (z : β) (N : Nat) (aM_0 : Int) (aM_1 : Nat → Int) (k0 : Bool → β) : β :=
  w_toMosaic z N aM_0 aM_1 (fun q5 => s_CountTiles z N aM_0 q5 (fun q6 => w_toMosaic z N aM_0 aM_1 (fun q7 => i_CountTiles z N aM_0 q7 (fun q8 => w_eqInt64S z N (fun q9 => cond (!q9) (k0 false) (cond (q8 != q6) (k0 false) (w_markInt64S z N 1 (w_heldInt64S z N 1 (w_toMosaic z N aM_0 aM_1 (fun q10 => i_CountTiles z N aM_0 q10 (fun q11 => w_eqInt64S z N (fun q12 => cond (!q12) (k0 false) (cond (q11 != q6) (k0 false) (w_heldInt64S z N 1 (k0 true))))) (fun q11 q12 => w_eqInt64S_s8 z N 8 8 8 8 q12 (fun q13 => cond (!q13) (k0 false) (cond (q11 != q6) (k0 false) (w_heldInt64S z N 1 (k0 true)))))))))))) (fun q8 q9 => w_eqInt64S_s8 z N 8 8 8 8 q9 (fun q10 => cond (!q10) (k0 false) (cond (q8 != q6) (k0 false) (w_markInt64S_s4 z N 8 8 8 1 8 q9 (fun q11 q12 => w_heldInt64S_s4 z N 8 8 8 1 8 q12 (fun q13 => cond (decide (q13 < 0)) (k0 false) (cond (q13 != q11) (k0 false) (w_toMosaic z N aM_0 aM_1 (fun q14 => i_CountTiles z N aM_0 q14 (fun q15 => w_eqInt64S z N (fun q16 => cond (!q16) (k0 false) (cond (q15 != q6) (k0 false) (w_heldInt64S_s4 z N 8 8 8 1 8 q12 (fun q17 => cond (decide (q17 < 0)) (k0 false) (cond (q17 != q11) (k0 false) (k0 true))))))) (fun q15 q16 => w_eqInt64S_s8 z N 8 8 8 8 q16 (fun q17 => cond (!q17) (k0 false) (cond (q15 != q6) (k0 false) (w_heldInt64S_s4 z N 8 8 8 1 8 q12 (fun q18 => cond (decide (q18 < 0)) (k0 false) (cond (q18 != q11) (k0 false) (k0 true)))))))))))))))))) (fun q6 q7 => w_toMosaic z N aM_0 aM_1 (fun q8 => i_CountTiles z N aM_0 q8 (fun q9 => w_eqInt64S_s9 z N 8 8 8 8 q7 (fun q10 => cond (!q10) (k0 false) (cond (q9 != q6) (k0 false) (w_markInt64S z N 1 (w_heldInt64S z N 1 (w_toMosaic z N aM_0 aM_1 (fun q11 => i_CountTiles z N aM_0 q11 (fun q12 => w_eqInt64S_s9 z N 8 8 8 8 q7 (fun q13 => cond (!q13) (k0 false) (cond (q12 != q6) (k0 false) (w_heldInt64S z N 1 (k0 true))))) (fun q12 q13 => w_eqInt64S_s10 z N 8 8 8 8 8 8 8 q13 8 q7 (fun q14 => cond (!q14) (k0 false) (cond (q12 != q6) (k0 false) (w_heldInt64S z N 1 (k0 true)))))))))))) (fun q9 q10 => w_eqInt64S_s10 z N 8 8 8 8 8 8 8 q10 8 q7 (fun q11 => cond (!q11) (k0 false) (cond (q9 != q6) (k0 false) (w_markInt64S_s4 z N 8 8 8 1 8 q10 (fun q12 q13 => w_heldInt64S_s4 z N 8 8 8 1 8 q13 (fun q14 => cond (decide (q14 < 0)) (k0 false) (cond (q14 != q12) (k0 false) (w_toMosaic z N aM_0 aM_1 (fun q15 => i_CountTiles z N aM_0 q15 (fun q16 => w_eqInt64S_s9 z N 8 8 8 8 q7 (fun q17 => cond (!q17) (k0 false) (cond (q16 != q6) (k0 false) (w_heldInt64S_s4 z N 8 8 8 1 8 q13 (fun q18 => cond (decide (q18 < 0)) (k0 false) (cond (q18 != q12) (k0 false) (k0 true))))))) (fun q16 q17 => w_eqInt64S_s10 z N 8 8 8 8 8 8 8 q17 8 q7 (fun q18 => cond (!q18) (k0 false) (cond (q16 != q6) (k0 false) (w_heldInt64S_s4 z N 8 8 8 1 8 q13 (fun q19 => cond (decide (q19 < 0)) (k0 false) (cond (q19 != q12) (k0 false) (k0 true)))))))))))))))))))
end Go.AM

set_option maxRecDepth 100000
namespace Go.AM
/-- spec.SelfLinkings -/
def s_SelfLinkings {β : Type} (z : β) (N : Nat) (g_0 : Int) (g_1 : Nat → Int) (g_2 : Nat → Int) (k0 : Int → β) (k1 : Int → (List Int) → β) : β :=
  s_l01Is z N g_0 g_1 g_2 (fun q6 => cond (!q6) (k0 1) (s_l01Components z N g_0 g_1 g_2 (fun q7 q8 => cond (q8 != 1) (k0 5) (s_l07Numbers z N g_0 g_1 g_2 (fun q9 q10 => cond (fits IntKind.i64 (q9 - q10)) (cond (fits IntKind.i64 (q9 + q10)) (k1 0 (((List.replicate 2 0).set 0 (q9 - q10)).set 1 (q9 + q10))) (z)) (z))))))

/-- (impl.Grid).component, loop -/
def i_Grid_component_l1_s {β : Type} (z : β) (many : Int) (t16 : Int) (t17 : Int) (h0_0 : Int) (h0_1 : Nat → Int) (h0_2 : Nat → Int) (h1 : Nat → Int) (h3 : Nat → Int) (k : Int) (h2 : Nat → Int) (kn : Int → (Nat → Int) → β) (k0 : (Nat → Int) → β) : β :=
  cond (decide (0 ≤ k) && decide (k < (↑8 : Int))) (cond (k.toNat.blt 8) (cond (h2 k.toNat == 0) (cond (decide (0 ≤ k) && decide (k < (↑8 : Int))) (cond (k.toNat.blt 8) (cond (decide (0 ≤ k) && decide (k < (↑8 : Int))) (cond (k.toNat.blt 8) (cond (decide (0 ≤ h0_2 k.toNat) && decide (h0_2 k.toNat < (↑8 : Int))) (cond ((h0_2 k.toNat).toNat.blt 8) (kn (h3 (h0_2 k.toNat).toNat) (upd h2 k.toNat many)) (z)) (z)) (z)) (z)) (z)) (z)) (k0 h2)) (z)) (z)
def i_Grid_component_l1 {β : Type} (z : β) (many : Int) (t16 : Int) (t17 : Int) (h0_0 : Int) (h0_1 : Nat → Int) (h0_2 : Nat → Int) (h1 : Nat → Int) (h3 : Nat → Int) : Nat → Int → (Nat → Int) → ((Nat → Int) → β) → β
  | 0, _, _, _ => z
  | m + 1, k, h2, k0 => i_Grid_component_l1_s z many t16 t17 h0_0 h0_1 h0_2 h1 h3 k h2 (fun k h2 => i_Grid_component_l1 z many t16 t17 h0_0 h0_1 h0_2 h1 h3 m k h2 k0) k0

/-- (impl.Grid).component, loop -/
def i_Grid_component_l0_s {β : Type} (z : β) (N : Nat) (t16 : Int) (h0_0 : Int) (h0_1 : Nat → Int) (h0_2 : Nat → Int) (h1 : Nat → Int) (h3 : Nat → Int) (many : Int) (t17 : Int) (h2 : Nat → Int) (kn : Int → Int → (Nat → Int) → β) (k0 : Int → (Nat → Int) → β) : β :=
  cond (decide (t17 < t16)) (cond (decide (0 ≤ t17) && decide (t17 < (↑8 : Int))) (cond (t17.toNat.blt 8) (cond (decide (0 < h2 t17.toNat)) (cond (fits IntKind.i64 (t17 + 1)) (kn many (t17 + 1) h2) (z)) (cond (fits IntKind.i64 (many + 1)) (i_Grid_component_l1 z (many + 1) t16 t17 h0_0 h0_1 h0_2 h1 h3 N t17 h2 (fun q13 => cond (fits IntKind.i64 (t17 + 1)) (kn (many + 1) (t17 + 1) q13) (z))) (z))) (z)) (z)) (k0 many h2)
def i_Grid_component_l0 {β : Type} (z : β) (N : Nat) (t16 : Int) (h0_0 : Int) (h0_1 : Nat → Int) (h0_2 : Nat → Int) (h1 : Nat → Int) (h3 : Nat → Int) : Nat → Int → Int → (Nat → Int) → (Int → (Nat → Int) → β) → β
  | 0, _, _, _, _ => z
  | m + 1, many, t17, h2, k0 => i_Grid_component_l0_s z N t16 h0_0 h0_1 h0_2 h1 h3 many t17 h2 (fun many t17 h2 => i_Grid_component_l0 z N t16 h0_0 h0_1 h0_2 h1 h3 m many t17 h2 k0) k0

/-- (impl.Grid).component, loop -/
def i_Grid_component_l2_s {β : Type} (z : β) (many : Int) (t42 : Int) (h0_0 : Int) (h0_1 : Nat → Int) (h0_2 : Nat → Int) (h1 : Nat → Int) (h3 : Nat → Int) (t43 : Int) (h2 : Nat → Int) (kn : Int → (Nat → Int) → β) (k0 : (Nat → Int) → β) : β :=
  cond (decide (t43 < t42)) (cond (decide (0 ≤ t43) && decide (t43 < (↑8 : Int))) (cond (t43.toNat.blt 8) (cond (fits IntKind.i64 (h2 t43.toNat - 1)) (cond (decide (0 ≤ t43) && decide (t43 < (↑8 : Int))) (cond (t43.toNat.blt 8) (cond (fits IntKind.i64 (t43 + 1)) (kn (t43 + 1) (upd h2 t43.toNat (h2 t43.toNat - 1))) (z)) (z)) (z)) (z)) (z)) (z)) (k0 h2)
def i_Grid_component_l2 {β : Type} (z : β) (many : Int) (t42 : Int) (h0_0 : Int) (h0_1 : Nat → Int) (h0_2 : Nat → Int) (h1 : Nat → Int) (h3 : Nat → Int) : Nat → Int → (Nat → Int) → ((Nat → Int) → β) → β
  | 0, _, _, _ => z
  | m + 1, t43, h2, k0 => i_Grid_component_l2_s z many t42 h0_0 h0_1 h0_2 h1 h3 t43 h2 (fun t43 h2 => i_Grid_component_l2 z many t42 h0_0 h0_1 h0_2 h1 h3 m t43 h2 k0) k0

/-- (impl.Grid).component -/
def i_Grid_component {β : Type} (z : β) (N : Nat) (g_0 : Int) (g_1 : Nat → Int) (g_2 : Nat → Int) (k0 : (Nat → Int) → Int → β) : β :=
  i_Grid_places z N g_0 g_1 g_2 g_1 (fun q6 => i_Grid_n z N g_0 g_1 g_2 (i_Grid_component_l0 z N g_0 g_0 g_1 g_2 (fun (x : Nat) => 0) q6 N 0 0 (fun (x : Nat) => 0) (fun q7 q8 => i_Grid_n z N g_0 g_1 g_2 (i_Grid_component_l2 z q7 g_0 g_0 g_1 g_2 (fun (x : Nat) => 0) q6 N 0 q8 (fun q9 => k0 q9 q7)))))

/-- (impl.Grid).isKnot -/
def i_Grid_isKnot {β : Type} (z : β) (N : Nat) (g_0 : Int) (g_1 : Nat → Int) (g_2 : Nat → Int) (k0 : Bool → β) : β :=
  i_Grid_component z N g_0 g_1 g_2 (fun q6 q7 => k0 (q7 == 1))

/-- impl.SelfLinkings$1 -/
def i_SelfLinkings_1 {β : Type} (z : β) (N : Nat) (g_0 : Int) (g_1 : Nat → Int) (g_2 : Nat → Int) (k0 : (List Int) → β) : β :=
  i_Grid_numbers z N g_0 g_1 g_2 (fun q6 => cond (Nat.beq 2 q6.length && true) (cond (Nat.beq 2 q6.length && Nat.blt 0 q6.length) (cond (Nat.beq 2 q6.length && true) (cond (Nat.beq 2 q6.length && Nat.blt 1 q6.length) (cond (fits IntKind.i64 (q6[0]?.getD 0 - q6[1]?.getD 0)) (cond (Nat.beq 2 q6.length && true) (cond (Nat.beq 2 q6.length && Nat.blt 0 q6.length) (cond (Nat.beq 2 q6.length && true) (cond (Nat.beq 2 q6.length && Nat.blt 1 q6.length) (cond (fits IntKind.i64 (q6[0]?.getD 0 + q6[1]?.getD 0)) (k0 (((List.replicate 2 0).set 0 (q6[0]?.getD 0 - q6[1]?.getD 0)).set 1 (q6[0]?.getD 0 + q6[1]?.getD 0))) (z)) (z)) (z)) (z)) (z)) (z)) (z)) (z)) (z)) (z))

/-- impl.knotted[[]int64] -/
def i_knotted_int64 {β : Type} (z : β) (N : Nat) (g_0 : Int) (g_1 : Nat → Int) (g_2 : Nat → Int) (k0 : Int → β) (k1 : Int → (List Int) → β) : β :=
  i_IsGrid z N g_0 g_1 g_2 (fun q6 => cond (!q6) (k0 1) (i_Grid_isKnot z N g_0 g_1 g_2 (fun q7 => cond (!q7) (k0 5) (i_SelfLinkings_1 z N g_0 g_1 g_2 (fun q8 => k1 0 q8)))))

/-- impl.SelfLinkings -/
def i_SelfLinkings {β : Type} (z : β) (N : Nat) (g_0 : Int) (g_1 : Nat → Int) (g_2 : Nat → Int) (k0 : Int → β) (k1 : Int → (List Int) → β) : β :=
  i_knotted_int64 z N g_0 g_1 g_2 (fun q6 => k0 q6) (fun q6 q7 => k1 q6 q7)

/-- laws.eqInt64S, loop -/
def w_eqInt64S_l0_s9_s {β : Type} (z : β) (a_n : Nat) (a_l : Nat) (a_c : Nat) (i : Int) (h0 : List Int)  (kn : β) (k0 : β) : β :=
  cond (a_l.ble 9223372036854775807) (cond (decide (i < (↑a_l : Int))) (cond (a_n.beq h0.length && (decide (0 ≤ i) && decide (i < (↑a_l : Int)))) (cond (a_n.beq h0.length && i.toNat.blt h0.length) (z) (z)) (z)) (k0)) (z)
def w_eqInt64S_l0_s9 {β : Type} (z : β) (a_n : Nat) (a_l : Nat) (a_c : Nat) (i : Int) (h0 : List Int) : Nat → β → β
  | 0, _ => z
  | m + 1, k0 => w_eqInt64S_l0_s9_s z a_n a_l a_c i h0 (w_eqInt64S_l0_s9 z a_n a_l a_c i h0 m k0) k0

/-- laws.eqInt64S -/
def w_eqInt64S_s11 {β : Type} (z : β) (N : Nat) (a_n : Nat) (a_l : Nat) (a_c : Nat) (h0 : List Int) (k0 : Bool → β) : β :=
  cond (a_l.ble 9223372036854775807) (cond ((↑a_l : Int) != 0) (k0 false) (w_eqInt64S_l0_s9 z a_n a_l a_c 0 h0 N (k0 true))) (z)

/-- laws.markInt64S, loop -/
def w_markInt64S_l0_s5_s {β : Type} (z : β) (a_n : Nat) (a_l : Nat) (a_c : Nat) (k : Int) (i : Int) (h0 : List Int) (kn : Int → Int → (List Int) → β) (k0 : Int → (List Int) → β) : β :=
  cond (a_l.ble 9223372036854775807) (cond (decide (i < (↑a_l : Int))) (cond (a_n.beq h0.length && (decide (0 ≤ i) && decide (i < (↑a_l : Int)))) (cond (a_n.beq h0.length && i.toNat.blt h0.length) (cond (fits IntKind.i64 (k + 1)) (cond (fits IntKind.i64 (i + 1)) (kn (k + 1) (i + 1) (h0.set i.toNat k)) (z)) (z)) (z)) (z)) (k0 k h0)) (z)
def w_markInt64S_l0_s5 {β : Type} (z : β) (a_n : Nat) (a_l : Nat) (a_c : Nat) : Nat → Int → Int → (List Int) → (Int → (List Int) → β) → β
  | 0, _, _, _, _ => z
  | m + 1, k, i, h0, k0 => w_markInt64S_l0_s5_s z a_n a_l a_c k i h0 (fun k i h0 => w_markInt64S_l0_s5 z a_n a_l a_c m k i h0 k0) k0

/-- laws.markInt64S -/
def w_markInt64S_s5 {β : Type} (z : β) (N : Nat) (a_n : Nat) (a_l : Nat) (a_c : Nat) (k : Int) (h0 : List Int) (k0 : Int → (List Int) → β) : β :=
  w_markInt64S_l0_s5 z a_n a_l a_c N k 0 h0 (fun q8 q9 => k0 q8 q9)

/-- laws.heldInt64S, loop -/
def w_heldInt64S_l0_s5_s {β : Type} (z : β) (a_n : Nat) (a_l : Nat) (a_c : Nat) (h0 : List Int) (k : Int) (i : Int) (kn : Int → Int → β) (k0 : β) (k1 : Int → β) : β :=
  cond (a_l.ble 9223372036854775807) (cond (decide (i < (↑a_l : Int))) (cond (a_n.beq h0.length && (decide (0 ≤ i) && decide (i < (↑a_l : Int)))) (cond (a_n.beq h0.length && i.toNat.blt h0.length) (cond (h0[i.toNat]?.getD 0 != k) (k0) (cond (fits IntKind.i64 (k + 1)) (cond (fits IntKind.i64 (i + 1)) (kn (k + 1) (i + 1)) (z)) (z))) (z)) (z)) (k1 k)) (z)
def w_heldInt64S_l0_s5 {β : Type} (z : β) (a_n : Nat) (a_l : Nat) (a_c : Nat) (h0 : List Int) : Nat → Int → Int → β → (Int → β) → β
  | 0, _, _, _, _ => z
  | m + 1, k, i, k0, k1 => w_heldInt64S_l0_s5_s z a_n a_l a_c h0 k i (fun k i => w_heldInt64S_l0_s5 z a_n a_l a_c h0 m k i k0 k1) k0 k1

/-- laws.heldInt64S -/
def w_heldInt64S_s5 {β : Type} (z : β) (N : Nat) (a_n : Nat) (a_l : Nat) (a_c : Nat) (k : Int) (h0 : List Int) (k0 : Int → β) : β :=
  w_heldInt64S_l0_s5 z a_n a_l a_c h0 N k 0 (k0 (-1)) (fun q8 => k0 q8)

/-- laws.eqInt64S, loop -/
def w_eqInt64S_l0_s10_s {β : Type} (z : β) (b_n : Nat) (b_l : Nat) (b_c : Nat) (i : Int) (h0 : List Int)  (kn : β) (k0 : β) : β :=
  cond (decide (i < 0)) (z) (k0)
def w_eqInt64S_l0_s10 {β : Type} (z : β) (b_n : Nat) (b_l : Nat) (b_c : Nat) (i : Int) (h0 : List Int) : Nat → β → β
  | 0, _ => z
  | m + 1, k0 => w_eqInt64S_l0_s10_s z b_n b_l b_c i h0 (w_eqInt64S_l0_s10 z b_n b_l b_c i h0 m k0) k0

/-- laws.eqInt64S -/
def w_eqInt64S_s12 {β : Type} (z : β) (N : Nat) (b_n : Nat) (b_l : Nat) (b_c : Nat) (h0 : List Int) (k0 : Bool → β) : β :=
  cond (b_l.ble 9223372036854775807) (cond (0 != (↑b_l : Int)) (k0 false) (w_eqInt64S_l0_s10 z b_n b_l b_c 0 h0 N (k0 true))) (z)

/-- laws.eqInt64S, loop -/
def w_eqInt64S_l0_s11_s {β : Type} (z : β) (a_n : Nat) (a_l : Nat) (a_c : Nat) (b_n : Nat) (b_l : Nat) (b_c : Nat) (h0 : List Int) (h1 : List Int) (i : Int) (kn : Int → β) (k0 : β) (k1 : β) : β :=
  cond (a_l.ble 9223372036854775807) (cond (decide (i < (↑a_l : Int))) (cond (a_n.beq h0.length && (decide (0 ≤ i) && decide (i < (↑a_l : Int)))) (cond (a_n.beq h0.length && i.toNat.blt h0.length) (cond (b_n.beq h1.length && (decide (0 ≤ i) && decide (i < (↑b_l : Int)))) (cond (b_n.beq h1.length && i.toNat.blt h1.length) (cond (h0[i.toNat]?.getD 0 != h1[i.toNat]?.getD 0) (k0) (cond (fits IntKind.i64 (i + 1)) (kn (i + 1)) (z))) (z)) (z)) (z)) (z)) (k1)) (z)
def w_eqInt64S_l0_s11 {β : Type} (z : β) (a_n : Nat) (a_l : Nat) (a_c : Nat) (b_n : Nat) (b_l : Nat) (b_c : Nat) (h0 : List Int) (h1 : List Int) : Nat → Int → β → β → β
  | 0, _, _, _ => z
  | m + 1, i, k0, k1 => w_eqInt64S_l0_s11_s z a_n a_l a_c b_n b_l b_c h0 h1 i (fun i => w_eqInt64S_l0_s11 z a_n a_l a_c b_n b_l b_c h0 h1 m i k0 k1) k0 k1

/-- laws.eqInt64S -/
def w_eqInt64S_s13 {β : Type} (z : β) (N : Nat) (a_n : Nat) (a_l : Nat) (a_c : Nat) (b_n : Nat) (b_l : Nat) (b_c : Nat) (h0 : List Int) (h1 : List Int) (k0 : Bool → β) : β :=
  cond (a_l.ble 9223372036854775807) (cond (b_l.ble 9223372036854775807) (cond ((↑a_l : Int) != (↑b_l : Int)) (k0 false) (w_eqInt64S_l0_s11 z a_n a_l a_c b_n b_l b_c h0 h1 N 0 (k0 false) (k0 true))) (z)) (z)

/-- laws.FnExactSelfLinkings -/
def w_FnExactSelfLinkings {β : Type} (z : β) (N : Nat) (aG_0 : Int) (aG_1 : Nat → Int) (aG_2 : Nat → Int) (k0 : Bool → β) : β :=
  w_toGrid z N aG_0 aG_1 aG_2 (fun q6 q7 => s_SelfLinkings z N aG_0 q6 q7 (fun q8 => w_toGrid z N aG_0 aG_1 aG_2 (fun q9 q10 => i_SelfLinkings z N aG_0 q9 q10 (fun q11 => w_eqInt64S z N (fun q12 => cond (!q12) (k0 false) (cond (q11 != q8) (k0 false) (w_markInt64S z N 1 (w_heldInt64S z N 1 (w_toGrid z N aG_0 aG_1 aG_2 (fun q13 q14 => i_SelfLinkings z N aG_0 q13 q14 (fun q15 => w_eqInt64S z N (fun q16 => cond (!q16) (k0 false) (cond (q15 != q8) (k0 false) (w_heldInt64S z N 1 (k0 true))))) (fun q15 q16 => w_eqInt64S_s11 z N 2 2 2 q16 (fun q17 => cond (!q17) (k0 false) (cond (q15 != q8) (k0 false) (w_heldInt64S z N 1 (k0 true)))))))))))) (fun q11 q12 => w_eqInt64S_s11 z N 2 2 2 q12 (fun q13 => cond (!q13) (k0 false) (cond (q11 != q8) (k0 false) (w_markInt64S_s5 z N 2 2 2 1 q12 (fun q14 q15 => w_heldInt64S_s5 z N 2 2 2 1 q15 (fun q16 => cond (decide (q16 < 0)) (k0 false) (cond (q16 != q14) (k0 false) (w_toGrid z N aG_0 aG_1 aG_2 (fun q17 q18 => i_SelfLinkings z N aG_0 q17 q18 (fun q19 => w_eqInt64S z N (fun q20 => cond (!q20) (k0 false) (cond (q19 != q8) (k0 false) (w_heldInt64S_s5 z N 2 2 2 1 q15 (fun q21 => cond (decide (q21 < 0)) (k0 false) (cond (q21 != q14) (k0 false) (k0 true))))))) (fun q19 q20 => w_eqInt64S_s11 z N 2 2 2 q20 (fun q21 => cond (!q21) (k0 false) (cond (q19 != q8) (k0 false) (w_heldInt64S_s5 z N 2 2 2 1 q15 (fun q22 => cond (decide (q22 < 0)) (k0 false) (cond (q22 != q14) (k0 false) (k0 true)))))))))))))))))) (fun q8 q9 => w_toGrid z N aG_0 aG_1 aG_2 (fun q10 q11 => i_SelfLinkings z N aG_0 q10 q11 (fun q12 => w_eqInt64S_s12 z N 2 2 2 q9 (fun q13 => cond (!q13) (k0 false) (cond (q12 != q8) (k0 false) (w_markInt64S z N 1 (w_heldInt64S z N 1 (w_toGrid z N aG_0 aG_1 aG_2 (fun q14 q15 => i_SelfLinkings z N aG_0 q14 q15 (fun q16 => w_eqInt64S_s12 z N 2 2 2 q9 (fun q17 => cond (!q17) (k0 false) (cond (q16 != q8) (k0 false) (w_heldInt64S z N 1 (k0 true))))) (fun q16 q17 => w_eqInt64S_s13 z N 2 2 2 2 2 2 q17 q9 (fun q18 => cond (!q18) (k0 false) (cond (q16 != q8) (k0 false) (w_heldInt64S z N 1 (k0 true)))))))))))) (fun q12 q13 => w_eqInt64S_s13 z N 2 2 2 2 2 2 q13 q9 (fun q14 => cond (!q14) (k0 false) (cond (q12 != q8) (k0 false) (w_markInt64S_s5 z N 2 2 2 1 q13 (fun q15 q16 => w_heldInt64S_s5 z N 2 2 2 1 q16 (fun q17 => cond (decide (q17 < 0)) (k0 false) (cond (q17 != q15) (k0 false) (w_toGrid z N aG_0 aG_1 aG_2 (fun q18 q19 => i_SelfLinkings z N aG_0 q18 q19 (fun q20 => w_eqInt64S_s12 z N 2 2 2 q9 (fun q21 => cond (!q21) (k0 false) (cond (q20 != q8) (k0 false) (w_heldInt64S_s5 z N 2 2 2 1 q16 (fun q22 => cond (decide (q22 < 0)) (k0 false) (cond (q22 != q15) (k0 false) (k0 true))))))) (fun q20 q21 => w_eqInt64S_s13 z N 2 2 2 2 2 2 q21 q9 (fun q22 => cond (!q22) (k0 false) (cond (q20 != q8) (k0 false) (w_heldInt64S_s5 z N 2 2 2 1 q16 (fun q23 => cond (decide (q23 < 0)) (k0 false) (cond (q23 != q15) (k0 false) (k0 true)))))))))))))))))))
end Go.AM

set_option maxRecDepth 100000
namespace Go.AM
/-- spec.l08Relation, loop -/
def s_l08Relation_l0_s {β : Type} (z : β) (r_ : Int) (h0_0 : Int) (h0_1 : Nat → Int) (h0_2 : Nat → Int) (out_n : Nat) (out_l : Nat) (out_c : Nat) (i : Int) (h1 : List Int) (kn : Nat → Nat → Nat → Int → (List Int) → β) (k0 : Nat → Nat → Nat → (List Int) → β) : β :=
  cond (decide (i < h0_0)) (cond (decide (0 ≤ i) && decide (i < (↑8 : Int))) (cond (i.toNat.blt 8) (cond (decide (0 ≤ i) && decide (i < (↑8 : Int))) (cond (i.toNat.blt 8) (cond (decide (h0_1 i.toNat ≤ r_) != decide (h0_2 i.toNat ≤ r_)) (cond (out_n.beq h1.length && true) (cond ((out_l + 1).ble 1099511627776 && ((out_l + 1) * 8).ble 1099511627776) (cond ((out_l + 1).ble out_c) (cond (out_n.beq h1.length && (0 + out_l + 1).ble h1.length) (cond (fits IntKind.i64 (i + 1)) (kn out_n (out_l + 1) out_c (i + 1) (List.take (0 + out_l) h1 ++ (fromTo ((List.replicate 1 0).set 0 i) 0 1 ++ List.drop (0 + out_l + 1) h1))) (z)) (z)) (cond (out_l.beq h1.length) (cond (fits IntKind.i64 (i + 1)) (kn ((h1 ++ fromTo ((List.replicate 1 0).set 0 i) 0 1).length) (out_l + 1) (out_l + 1) (i + 1) (h1 ++ fromTo ((List.replicate 1 0).set 0 i) 0 1)) (z)) (z))) (z)) (z)) (cond (fits IntKind.i64 (i + 1)) (kn out_n out_l out_c (i + 1) h1) (z))) (z)) (z)) (z)) (z)) (k0 out_n out_l out_c h1)
def s_l08Relation_l0 {β : Type} (z : β) (r_ : Int) (h0_0 : Int) (h0_1 : Nat → Int) (h0_2 : Nat → Int) : Nat → Nat → Nat → Nat → Int → (List Int) → (Nat → Nat → Nat → (List Int) → β) → β
  | 0, _, _, _, _, _, _ => z
  | m + 1, out_n, out_l, out_c, i, h1, k0 => s_l08Relation_l0_s z r_ h0_0 h0_1 h0_2 out_n out_l out_c i h1 (fun out_n out_l out_c i h1 => s_l08Relation_l0 z r_ h0_0 h0_1 h0_2 m out_n out_l out_c i h1 k0) k0

/-- spec.l08Relation -/
def s_l08Relation {β : Type} (z : β) (N : Nat) (g_0 : Int) (g_1 : Nat → Int) (g_2 : Nat → Int) (r_ : Int) (k0 : Nat → Nat → Nat → (List Int) → β) : β :=
  s_l08Relation_l0 z r_ g_0 g_1 g_2 N 0 0 0 0 (List.replicate 0 0) (fun q7 q8 q9 q10 => k0 q7 q8 q9 q10)

/-- spec.RelationsOf, loop -/
def s_RelationsOf_l0_s {β : Type} (z : β) (N : Nat) (h0_0 : Int) (h0_1 : Nat → Int) (h0_2 : Nat → Int) (out_n : Nat) (out_l : Nat) (out_c : Nat) (r_ : Int) (h1 : List (List Int)) (h2 : List (Nat × Nat)) (kn : Nat → Nat → Nat → Int → (List (List Int)) → (List (Nat × Nat)) → β) (k0 : Nat → Nat → Nat → (List (List Int)) → (List (Nat × Nat)) → β) : β :=
  cond (fits IntKind.i64 (h0_0 - 1)) (cond (decide (r_ < h0_0 - 1)) (s_l08Relation z N h0_0 h0_1 h0_2 r_ (fun q13 q14 q15 q16 => cond (q13.beq q16.length && (q14.beq q13 && (q15.beq q14 && true))) (cond (out_n.beq h2.length && true) (cond ((out_l + 1).ble 1099511627776 && ((out_l + 1) * 24).ble 1099511627776) (cond ((out_l + 1).ble out_c) (cond (out_n.beq h2.length && (0 + out_l + 1).ble h2.length) (cond (fits IntKind.i64 (r_ + 1)) (kn out_n (out_l + 1) out_c (r_ + 1) (h1 ++ [q16]) (List.take (0 + out_l) h2 ++ ([(h1.length, q14)] ++ List.drop (0 + out_l + 1) h2))) (z)) (z)) (cond (out_l.beq h2.length) (cond (fits IntKind.i64 (r_ + 1)) (kn ((h2 ++ [(h1.length, q14)]).length) (out_l + 1) (out_l + 1) (r_ + 1) (h1 ++ [q16]) (h2 ++ [(h1.length, q14)])) (z)) (z))) (z)) (z)) (z))) (k0 out_n out_l out_c h1 h2)) (z)
def s_RelationsOf_l0 {β : Type} (z : β) (N : Nat) (h0_0 : Int) (h0_1 : Nat → Int) (h0_2 : Nat → Int) : Nat → Nat → Nat → Nat → Int → (List (List Int)) → (List (Nat × Nat)) → (Nat → Nat → Nat → (List (List Int)) → (List (Nat × Nat)) → β) → β
  | 0, _, _, _, _, _, _, _ => z
  | m + 1, out_n, out_l, out_c, r_, h1, h2, k0 => s_RelationsOf_l0_s z N h0_0 h0_1 h0_2 out_n out_l out_c r_ h1 h2 (fun out_n out_l out_c r_ h1 h2 => s_RelationsOf_l0 z N h0_0 h0_1 h0_2 m out_n out_l out_c r_ h1 h2 k0) k0

/-- spec.RelationsOf -/
def s_RelationsOf {β : Type} (z : β) (N : Nat) (g_0 : Int) (g_1 : Nat → Int) (g_2 : Nat → Int) (k0 : Int → β) (k1 : Nat → Nat → Nat → Int → (List (Nat × Nat)) → (List (List Int)) → β) : β :=
  s_l01Is z N g_0 g_1 g_2 (fun q6 => cond (!q6) (k0 1) (s_RelationsOf_l0 z N g_0 g_1 g_2 N 0 0 0 0 (List.replicate 0 []) (List.map (fun (i : Nat) => (i, 0)) (List.range 0)) (fun q7 q8 q9 q10 q11 => k1 q7 q8 q9 0 q11 q10)))

/-- (impl.Grid).relations, loop -/
def i_Grid_relations_l1_s {β : Type} (z : β) (out_n : Nat) (out_l : Nat) (out_c : Nat) (r_ : Int) (t10 : Int) (t11 : Int) (t16 : Int) (h0_0 : Int) (h0_1 : Nat → Int) (h0_2 : Nat → Int) (h1 : List (List Int)) (h2 : List (Nat × Nat)) (list_n : Nat) (list_l : Nat) (list_c : Nat) (t17 : Int) (h3 : List Int) (kn : Nat → Nat → Nat → Int → (List Int) → β) (k0 : Nat → Nat → Nat → (List Int) → β) : β :=
  cond (decide (t17 < t16)) (cond (decide (0 ≤ t17) && decide (t17 < (↑8 : Int))) (cond (t17.toNat.blt 8) (cond (decide (0 ≤ t17) && decide (t17 < (↑8 : Int))) (cond (t17.toNat.blt 8) (cond (decide ((bif decide (h0_2 t17.toNat < h0_1 t17.toNat) then h0_2 t17.toNat else h0_1 t17.toNat) ≤ r_)) (cond (decide (0 ≤ t17) && decide (t17 < (↑8 : Int))) (cond (t17.toNat.blt 8) (cond (decide (0 ≤ t17) && decide (t17 < (↑8 : Int))) (cond (t17.toNat.blt 8) (cond (decide (r_ < bif decide (h0_1 t17.toNat < h0_2 t17.toNat) then h0_2 t17.toNat else h0_1 t17.toNat)) (cond (list_n.beq h3.length && true) (cond ((list_l + 1).ble 1099511627776 && ((list_l + 1) * 8).ble 1099511627776) (cond ((list_l + 1).ble list_c) (cond (list_n.beq h3.length && (0 + list_l + 1).ble h3.length) (cond (fits IntKind.i64 (t17 + 1)) (kn list_n (list_l + 1) list_c (t17 + 1) (List.take (0 + list_l) h3 ++ (fromTo ((List.replicate 1 0).set 0 t17) 0 1 ++ List.drop (0 + list_l + 1) h3))) (z)) (z)) (cond (list_l.beq h3.length) (cond (fits IntKind.i64 (t17 + 1)) (kn ((h3 ++ fromTo ((List.replicate 1 0).set 0 t17) 0 1).length) (list_l + 1) (list_l + 1) (t17 + 1) (h3 ++ fromTo ((List.replicate 1 0).set 0 t17) 0 1)) (z)) (z))) (z)) (z)) (cond (fits IntKind.i64 (t17 + 1)) (kn list_n list_l list_c (t17 + 1) h3) (z))) (z)) (z)) (z)) (z)) (cond (fits IntKind.i64 (t17 + 1)) (kn list_n list_l list_c (t17 + 1) h3) (z))) (z)) (z)) (z)) (z)) (k0 list_n list_l list_c h3)
def i_Grid_relations_l1 {β : Type} (z : β) (out_n : Nat) (out_l : Nat) (out_c : Nat) (r_ : Int) (t10 : Int) (t11 : Int) (t16 : Int) (h0_0 : Int) (h0_1 : Nat → Int) (h0_2 : Nat → Int) (h1 : List (List Int)) (h2 : List (Nat × Nat)) : Nat → Nat → Nat → Nat → Int → (List Int) → (Nat → Nat → Nat → (List Int) → β) → β
  | 0, _, _, _, _, _, _ => z
  | m + 1, list_n, list_l, list_c, t17, h3, k0 => i_Grid_relations_l1_s z out_n out_l out_c r_ t10 t11 t16 h0_0 h0_1 h0_2 h1 h2 list_n list_l list_c t17 h3 (fun list_n list_l list_c t17 h3 => i_Grid_relations_l1 z out_n out_l out_c r_ t10 t11 t16 h0_0 h0_1 h0_2 h1 h2 m list_n list_l list_c t17 h3 k0) k0

/-- (impl.Grid).relations, loop -/
def i_Grid_relations_l0_s {β : Type} (z : β) (N : Nat) (t10 : Int) (h0_0 : Int) (h0_1 : Nat → Int) (h0_2 : Nat → Int) (out_n : Nat) (out_l : Nat) (out_c : Nat) (t11 : Int) (h1 : List (List Int)) (h2 : List (Nat × Nat)) (kn : Nat → Nat → Nat → Int → (List (List Int)) → (List (Nat × Nat)) → β) (k0 : Nat → Nat → Nat → (List (List Int)) → (List (Nat × Nat)) → β) : β :=
  cond (decide (t11 < t10)) (i_Grid_n z N h0_0 h0_1 h0_2 (i_Grid_relations_l1 z out_n out_l out_c t11 t10 t11 h0_0 h0_0 h0_1 h0_2 h1 h2 N 0 0 0 0 (List.replicate 0 0) (fun q14 q15 q16 q17 => cond (q14.beq q17.length && (q15.beq q14 && (q16.beq q15 && true))) (cond (out_n.beq h2.length && true) (cond ((out_l + 1).ble 1099511627776 && ((out_l + 1) * 24).ble 1099511627776) (cond ((out_l + 1).ble out_c) (cond (out_n.beq h2.length && (0 + out_l + 1).ble h2.length) (cond (fits IntKind.i64 (t11 + 1)) (kn out_n (out_l + 1) out_c (t11 + 1) (h1 ++ [q17]) (List.take (0 + out_l) h2 ++ ([(h1.length, q15)] ++ List.drop (0 + out_l + 1) h2))) (z)) (z)) (cond (out_l.beq h2.length) (cond (fits IntKind.i64 (t11 + 1)) (kn ((h2 ++ [(h1.length, q15)]).length) (out_l + 1) (out_l + 1) (t11 + 1) (h1 ++ [q17]) (h2 ++ [(h1.length, q15)])) (z)) (z))) (z)) (z)) (z)))) (k0 out_n out_l out_c h1 h2)
def i_Grid_relations_l0 {β : Type} (z : β) (N : Nat) (t10 : Int) (h0_0 : Int) (h0_1 : Nat → Int) (h0_2 : Nat → Int) : Nat → Nat → Nat → Nat → Int → (List (List Int)) → (List (Nat × Nat)) → (Nat → Nat → Nat → (List (List Int)) → (List (Nat × Nat)) → β) → β
  | 0, _, _, _, _, _, _, _ => z
  | m + 1, out_n, out_l, out_c, t11, h1, h2, k0 => i_Grid_relations_l0_s z N t10 h0_0 h0_1 h0_2 out_n out_l out_c t11 h1 h2 (fun out_n out_l out_c t11 h1 h2 => i_Grid_relations_l0 z N t10 h0_0 h0_1 h0_2 m out_n out_l out_c t11 h1 h2 k0) k0

/-- (impl.Grid).relations -/
def i_Grid_relations {β : Type} (z : β) (N : Nat) (g_0 : Int) (g_1 : Nat → Int) (g_2 : Nat → Int) (k0 : Nat → Nat → Nat → (List (Nat × Nat)) → (List (List Int)) → β) : β :=
  i_Grid_n z N g_0 g_1 g_2 (cond (fits IntKind.i64 (g_0 - 1)) (i_Grid_relations_l0 z N (g_0 - 1) g_0 g_1 g_2 N 0 0 0 0 (List.replicate 0 []) (List.map (fun (i : Nat) => (i, 0)) (List.range 0)) (fun q6 q7 q8 q9 q10 => k0 q6 q7 q8 q10 q9)) (z))

/-- impl.RelationsOf$1, loop -/
def i_RelationsOf_1_l1_s {β : Type} (z : β) (out_n : Nat) (out_l : Nat) (out_c : Nat) (t11_n : Nat) (t11_l : Nat) (t11_c : Nat) (t12 : Int) (t13 : Int) (t18_r : Nat) (t18_o : Nat) (t18_n : Nat) (t18_l : Nat) (t18_c : Nat) (t19 : Int) (h0_0 : Int) (h0_1 : Nat → Int) (h0_2 : Nat → Int) (h1 : List (List Int)) (h2 : List (Nat × Nat)) (h3 : List (Nat × Nat)) (h4 : List (List Int)) (columns_n : Nat) (columns_l : Nat) (columns_c : Nat) (t20 : Int) (h5 : List Int) (kn : Nat → Nat → Nat → Int → (List Int) → β) (k0 : Nat → Nat → Nat → (List Int) → β) : β :=
  cond (decide (t20 < t19)) (cond (t18_n.beq (h4[t18_r]?.getD []).length && (decide (0 ≤ t20) && decide (t20 < (↑t18_l : Int)))) (cond (t18_n.beq (h4[t18_r]?.getD []).length && (addO t18_o t20.toNat).blt (h4[t18_r]?.getD []).length) (cond (columns_n.beq h5.length && true) (cond ((columns_l + 1).ble 1099511627776 && ((columns_l + 1) * 8).ble 1099511627776) (cond ((columns_l + 1).ble columns_c) (cond (columns_n.beq h5.length && (0 + columns_l + 1).ble h5.length) (cond (fits IntKind.i64 (t20 + 1)) (kn columns_n (columns_l + 1) columns_c (t20 + 1) (List.take (0 + columns_l) h5 ++ (fromTo ((List.replicate 1 0).set 0 ((h4[t18_r]?.getD [])[addO t18_o t20.toNat]?.getD 0)) 0 1 ++ List.drop (0 + columns_l + 1) h5))) (z)) (z)) (cond (columns_l.beq h5.length) (cond (fits IntKind.i64 (t20 + 1)) (kn ((h5 ++ fromTo ((List.replicate 1 0).set 0 ((h4[t18_r]?.getD [])[addO t18_o t20.toNat]?.getD 0)) 0 1).length) (columns_l + 1) (columns_l + 1) (t20 + 1) (h5 ++ fromTo ((List.replicate 1 0).set 0 ((h4[t18_r]?.getD [])[addO t18_o t20.toNat]?.getD 0)) 0 1)) (z)) (z))) (z)) (z)) (z)) (z)) (k0 columns_n columns_l columns_c h5)
def i_RelationsOf_1_l1 {β : Type} (z : β) (out_n : Nat) (out_l : Nat) (out_c : Nat) (t11_n : Nat) (t11_l : Nat) (t11_c : Nat) (t12 : Int) (t13 : Int) (t18_r : Nat) (t18_o : Nat) (t18_n : Nat) (t18_l : Nat) (t18_c : Nat) (t19 : Int) (h0_0 : Int) (h0_1 : Nat → Int) (h0_2 : Nat → Int) (h1 : List (List Int)) (h2 : List (Nat × Nat)) (h3 : List (Nat × Nat)) (h4 : List (List Int)) : Nat → Nat → Nat → Nat → Int → (List Int) → (Nat → Nat → Nat → (List Int) → β) → β
  | 0, _, _, _, _, _, _ => z
  | m + 1, columns_n, columns_l, columns_c, t20, h5, k0 => i_RelationsOf_1_l1_s z out_n out_l out_c t11_n t11_l t11_c t12 t13 t18_r t18_o t18_n t18_l t18_c t19 h0_0 h0_1 h0_2 h1 h2 h3 h4 columns_n columns_l columns_c t20 h5 (fun columns_n columns_l columns_c t20 h5 => i_RelationsOf_1_l1 z out_n out_l out_c t11_n t11_l t11_c t12 t13 t18_r t18_o t18_n t18_l t18_c t19 h0_0 h0_1 h0_2 h1 h2 h3 h4 m columns_n columns_l columns_c t20 h5 k0) k0

/-- impl.RelationsOf$1, loop -/
def i_RelationsOf_1_l0_s {β : Type} (z : β) (N : Nat) (t11_n : Nat) (t11_l : Nat) (t11_c : Nat) (t12 : Int) (h0_0 : Int) (h0_1 : Nat → Int) (h0_2 : Nat → Int) (h3 : List (Nat × Nat)) (h4 : List (List Int)) (out_n : Nat) (out_l : Nat) (out_c : Nat) (t13 : Int) (h1 : List (List Int)) (h2 : List (Nat × Nat)) (kn : Nat → Nat → Nat → Int → (List (List Int)) → (List (Nat × Nat)) → β) (k0 : Nat → Nat → Nat → (List (List Int)) → (List (Nat × Nat)) → β) : β :=
  cond (decide (t13 < t12)) (cond (t11_n.beq h3.length && (decide (0 ≤ t13) && decide (t13 < (↑t11_l : Int)))) (cond (t11_n.beq h3.length && t13.toNat.blt h3.length) (cond ((h3[t13.toNat]?.getD (0, 0)).snd.ble 9223372036854775807) (i_RelationsOf_1_l1 z out_n out_l out_c t11_n t11_l t11_c t12 t13 ((h3[t13.toNat]?.getD (0, 0)).fst) 0 ((h3[t13.toNat]?.getD (0, 0)).snd) ((h3[t13.toNat]?.getD (0, 0)).snd) ((h3[t13.toNat]?.getD (0, 0)).snd) (↑(h3[t13.toNat]?.getD (0, 0)).snd : Int) h0_0 h0_1 h0_2 h1 h2 h3 h4 N 0 0 0 0 (List.replicate 0 0) (fun q19 q20 q21 q22 => cond (q19.beq q22.length && (q20.beq q19 && (q21.beq q20 && true))) (cond (out_n.beq h2.length && true) (cond ((out_l + 1).ble 1099511627776 && ((out_l + 1) * 24).ble 1099511627776) (cond ((out_l + 1).ble out_c) (cond (out_n.beq h2.length && (0 + out_l + 1).ble h2.length) (cond (fits IntKind.i64 (t13 + 1)) (kn out_n (out_l + 1) out_c (t13 + 1) (h1 ++ [q22]) (List.take (0 + out_l) h2 ++ ([(h1.length, q20)] ++ List.drop (0 + out_l + 1) h2))) (z)) (z)) (cond (out_l.beq h2.length) (cond (fits IntKind.i64 (t13 + 1)) (kn ((h2 ++ [(h1.length, q20)]).length) (out_l + 1) (out_l + 1) (t13 + 1) (h1 ++ [q22]) (h2 ++ [(h1.length, q20)])) (z)) (z))) (z)) (z)) (z))) (z)) (z)) (z)) (k0 out_n out_l out_c h1 h2)
def i_RelationsOf_1_l0 {β : Type} (z : β) (N : Nat) (t11_n : Nat) (t11_l : Nat) (t11_c : Nat) (t12 : Int) (h0_0 : Int) (h0_1 : Nat → Int) (h0_2 : Nat → Int) (h3 : List (Nat × Nat)) (h4 : List (List Int)) : Nat → Nat → Nat → Nat → Int → (List (List Int)) → (List (Nat × Nat)) → (Nat → Nat → Nat → (List (List Int)) → (List (Nat × Nat)) → β) → β
  | 0, _, _, _, _, _, _, _ => z
  | m + 1, out_n, out_l, out_c, t13, h1, h2, k0 => i_RelationsOf_1_l0_s z N t11_n t11_l t11_c t12 h0_0 h0_1 h0_2 h3 h4 out_n out_l out_c t13 h1 h2 (fun out_n out_l out_c t13 h1 h2 => i_RelationsOf_1_l0 z N t11_n t11_l t11_c t12 h0_0 h0_1 h0_2 h3 h4 m out_n out_l out_c t13 h1 h2 k0) k0

/-- impl.RelationsOf$1 -/
def i_RelationsOf_1 {β : Type} (z : β) (N : Nat) (g_0 : Int) (g_1 : Nat → Int) (g_2 : Nat → Int) (k0 : Nat → Nat → Nat → (List (Nat × Nat)) → (List (List Int)) → β) : β :=
  i_Grid_relations z N g_0 g_1 g_2 (fun q6 q7 q8 q9 q10 => cond (q7.ble 9223372036854775807) (i_RelationsOf_1_l0 z N q6 q7 q8 (↑q7 : Int) g_0 g_1 g_2 q9 q10 N 0 0 0 0 (List.replicate 0 []) (List.map (fun (i : Nat) => (i, 0)) (List.range 0)) (fun q11 q12 q13 q14 q15 => k0 q11 q12 q13 q15 q14)) (z))

/-- impl.whole[[][]int64] -/
def i_whole_int64_s2 {β : Type} (z : β) (N : Nat) (g_0 : Int) (g_1 : Nat → Int) (g_2 : Nat → Int) (k0 : Int → β) (k1 : Nat → Nat → Nat → Int → (List (Nat × Nat)) → (List (List Int)) → β) : β :=
  i_IsGrid z N g_0 g_1 g_2 (fun q6 => cond (!q6) (k0 1) (i_RelationsOf_1 z N g_0 g_1 g_2 (fun q7 q8 q9 q10 q11 => k1 q7 q8 q9 0 q10 q11)))

/-- impl.RelationsOf -/
def i_RelationsOf {β : Type} (z : β) (N : Nat) (g_0 : Int) (g_1 : Nat → Int) (g_2 : Nat → Int) (k0 : Int → β) (k1 : Nat → Nat → Nat → Int → (List (Nat × Nat)) → (List (List Int)) → β) : β :=
  i_whole_int64_s2 z N g_0 g_1 g_2 (fun q6 => k0 q6) (fun q6 q7 q8 q9 q10 q11 => k1 q6 q7 q8 q9 q10 q11)

/-- laws.eqInt64SS, loop -/
def w_eqInt64SS_l0_s {β : Type} (z : β) (i : Int)  (kn : β) (k0 : β) : β :=
  cond (decide (i < 0)) (z) (k0)
def w_eqInt64SS_l0 {β : Type} (z : β) (i : Int) : Nat → β → β
  | 0, _ => z
  | m + 1, k0 => w_eqInt64SS_l0_s z i (w_eqInt64SS_l0 z i m k0) k0

/-- laws.eqInt64SS -/
def w_eqInt64SS {β : Type} (z : β) (N : Nat)  (k0 : Bool → β) : β :=
  w_eqInt64SS_l0 z 0 N (k0 true)

/-- laws.markInt64SS, loop -/
def w_markInt64SS_l0_s {β : Type} (z : β) (k : Int) (i : Int)  (kn : β) (k0 : β) : β :=
  cond (decide (i < 0)) (z) (k0)
def w_markInt64SS_l0 {β : Type} (z : β) (k : Int) (i : Int) : Nat → β → β
  | 0, _ => z
  | m + 1, k0 => w_markInt64SS_l0_s z k i (w_markInt64SS_l0 z k i m k0) k0

/-- laws.markInt64SS -/
def w_markInt64SS {β : Type} (z : β) (N : Nat) (k : Int) (k0 : β) : β :=
  w_markInt64SS_l0 z k 0 N k0

/-- laws.heldInt64SS, loop -/
def w_heldInt64SS_l0_s {β : Type} (z : β) (k : Int) (i : Int)  (kn : β) (k0 : β) : β :=
  cond (decide (i < 0)) (z) (k0)
def w_heldInt64SS_l0 {β : Type} (z : β) (k : Int) (i : Int) : Nat → β → β
  | 0, _ => z
  | m + 1, k0 => w_heldInt64SS_l0_s z k i (w_heldInt64SS_l0 z k i m k0) k0

/-- laws.heldInt64SS -/
def w_heldInt64SS {β : Type} (z : β) (N : Nat) (k : Int) (k0 : β) : β :=
  w_heldInt64SS_l0 z k 0 N k0

/-- laws.eqInt64SS, loop -/
def w_eqInt64SS_l0_s2_s {β : Type} (z : β) (a_n : Nat) (a_l : Nat) (a_c : Nat) (i : Int) (h0 : List (Nat × Nat)) (h1 : List (List Int))  (kn : β) (k0 : β) : β :=
  cond (a_l.ble 9223372036854775807) (cond (decide (i < (↑a_l : Int))) (cond (a_n.beq h0.length && (decide (0 ≤ i) && decide (i < (↑a_l : Int)))) (cond (a_n.beq h0.length && i.toNat.blt h0.length) (z) (z)) (z)) (k0)) (z)
def w_eqInt64SS_l0_s2 {β : Type} (z : β) (a_n : Nat) (a_l : Nat) (a_c : Nat) (i : Int) (h0 : List (Nat × Nat)) (h1 : List (List Int)) : Nat → β → β
  | 0, _ => z
  | m + 1, k0 => w_eqInt64SS_l0_s2_s z a_n a_l a_c i h0 h1 (w_eqInt64SS_l0_s2 z a_n a_l a_c i h0 h1 m k0) k0

/-- laws.eqInt64SS -/
def w_eqInt64SS_s2 {β : Type} (z : β) (N : Nat) (a_n : Nat) (a_l : Nat) (a_c : Nat) (h0 : List (Nat × Nat)) (h1 : List (List Int)) (k0 : Bool → β) : β :=
  cond (a_l.ble 9223372036854775807) (cond ((↑a_l : Int) != 0) (k0 false) (w_eqInt64SS_l0_s2 z a_n a_l a_c 0 h0 h1 N (k0 true))) (z)

/-- laws.markInt64S, loop -/
def w_markInt64S_l0_s6_s {β : Type} (z : β) (a_r : Nat) (a_o : Nat) (a_n : Nat) (a_l : Nat) (a_c : Nat) (k : Int) (i : Int) (h0 : List (List Int)) (kn : Int → Int → (List (List Int)) → β) (k0 : Int → (List (List Int)) → β) : β :=
  cond (a_l.ble 9223372036854775807) (cond (decide (i < (↑a_l : Int))) (cond (a_n.beq (h0[a_r]?.getD []).length && (decide (0 ≤ i) && decide (i < (↑a_l : Int)))) (cond (a_n.beq (h0[a_r]?.getD []).length && (addO a_o i.toNat).blt (h0[a_r]?.getD []).length) (cond (fits IntKind.i64 (k + 1)) (cond (fits IntKind.i64 (i + 1)) (kn (k + 1) (i + 1) (h0.set a_r ((h0[a_r]?.getD []).set (addO a_o i.toNat) k))) (z)) (z)) (z)) (z)) (k0 k h0)) (z)
def w_markInt64S_l0_s6 {β : Type} (z : β) (a_r : Nat) (a_o : Nat) (a_n : Nat) (a_l : Nat) (a_c : Nat) : Nat → Int → Int → (List (List Int)) → (Int → (List (List Int)) → β) → β
  | 0, _, _, _, _ => z
  | m + 1, k, i, h0, k0 => w_markInt64S_l0_s6_s z a_r a_o a_n a_l a_c k i h0 (fun k i h0 => w_markInt64S_l0_s6 z a_r a_o a_n a_l a_c m k i h0 k0) k0

/-- laws.markInt64S -/
def w_markInt64S_s6 {β : Type} (z : β) (N : Nat) (a_r : Nat) (a_o : Nat) (a_n : Nat) (a_l : Nat) (a_c : Nat) (k : Int) (h0 : List (List Int)) (k0 : Int → (List (List Int)) → β) : β :=
  w_markInt64S_l0_s6 z a_r a_o a_n a_l a_c N k 0 h0 (fun q10 q11 => k0 q10 q11)

/-- laws.markInt64SS, loop -/
def w_markInt64SS_l0_s2_s {β : Type} (z : β) (N : Nat) (a_n : Nat) (a_l : Nat) (a_c : Nat) (h0 : List (Nat × Nat)) (k : Int) (i : Int) (h1 : List (List Int)) (kn : Int → Int → (List (List Int)) → β) (k0 : Int → (List (List Int)) → β) : β :=
  cond (a_l.ble 9223372036854775807) (cond (decide (i < (↑a_l : Int))) (cond (a_n.beq h0.length && (decide (0 ≤ i) && decide (i < (↑a_l : Int)))) (cond (a_n.beq h0.length && i.toNat.blt h0.length) (w_markInt64S_s6 z N ((h0[i.toNat]?.getD (0, 0)).fst) 0 ((h0[i.toNat]?.getD (0, 0)).snd) ((h0[i.toNat]?.getD (0, 0)).snd) ((h0[i.toNat]?.getD (0, 0)).snd) k h1 (fun q11 q12 => cond (fits IntKind.i64 (i + 1)) (kn q11 (i + 1) q12) (z))) (z)) (z)) (k0 k h1)) (z)
def w_markInt64SS_l0_s2 {β : Type} (z : β) (N : Nat) (a_n : Nat) (a_l : Nat) (a_c : Nat) (h0 : List (Nat × Nat)) : Nat → Int → Int → (List (List Int)) → (Int → (List (List Int)) → β) → β
  | 0, _, _, _, _ => z
  | m + 1, k, i, h1, k0 => w_markInt64SS_l0_s2_s z N a_n a_l a_c h0 k i h1 (fun k i h1 => w_markInt64SS_l0_s2 z N a_n a_l a_c h0 m k i h1 k0) k0

/-- laws.markInt64SS -/
def w_markInt64SS_s2 {β : Type} (z : β) (N : Nat) (a_n : Nat) (a_l : Nat) (a_c : Nat) (k : Int) (h0 : List (Nat × Nat)) (h1 : List (List Int)) (k0 : Int → (List (List Int)) → β) : β :=
  w_markInt64SS_l0_s2 z N a_n a_l a_c h0 N k 0 h1 (fun q9 q10 => k0 q9 q10)

/-- laws.heldInt64S, loop -/
def w_heldInt64S_l0_s6_s {β : Type} (z : β) (a_r : Nat) (a_o : Nat) (a_n : Nat) (a_l : Nat) (a_c : Nat) (h0 : List (List Int)) (k : Int) (i : Int) (kn : Int → Int → β) (k0 : β) (k1 : Int → β) : β :=
  cond (a_l.ble 9223372036854775807) (cond (decide (i < (↑a_l : Int))) (cond (a_n.beq (h0[a_r]?.getD []).length && (decide (0 ≤ i) && decide (i < (↑a_l : Int)))) (cond (a_n.beq (h0[a_r]?.getD []).length && (addO a_o i.toNat).blt (h0[a_r]?.getD []).length) (cond ((h0[a_r]?.getD [])[addO a_o i.toNat]?.getD 0 != k) (k0) (cond (fits IntKind.i64 (k + 1)) (cond (fits IntKind.i64 (i + 1)) (kn (k + 1) (i + 1)) (z)) (z))) (z)) (z)) (k1 k)) (z)
def w_heldInt64S_l0_s6 {β : Type} (z : β) (a_r : Nat) (a_o : Nat) (a_n : Nat) (a_l : Nat) (a_c : Nat) (h0 : List (List Int)) : Nat → Int → Int → β → (Int → β) → β
  | 0, _, _, _, _ => z
  | m + 1, k, i, k0, k1 => w_heldInt64S_l0_s6_s z a_r a_o a_n a_l a_c h0 k i (fun k i => w_heldInt64S_l0_s6 z a_r a_o a_n a_l a_c h0 m k i k0 k1) k0 k1

/-- laws.heldInt64S -/
def w_heldInt64S_s6 {β : Type} (z : β) (N : Nat) (a_r : Nat) (a_o : Nat) (a_n : Nat) (a_l : Nat) (a_c : Nat) (k : Int) (h0 : List (List Int)) (k0 : Int → β) : β :=
  w_heldInt64S_l0_s6 z a_r a_o a_n a_l a_c h0 N k 0 (k0 (-1)) (fun q10 => k0 q10)

/-- laws.heldInt64SS, loop -/
def w_heldInt64SS_l0_s2_s {β : Type} (z : β) (N : Nat) (a_n : Nat) (a_l : Nat) (a_c : Nat) (h0 : List (Nat × Nat)) (h1 : List (List Int)) (k : Int) (i : Int) (kn : Int → Int → β) (k0 : β) (k1 : Int → β) : β :=
  cond (a_l.ble 9223372036854775807) (cond (decide (i < (↑a_l : Int))) (cond (a_n.beq h0.length && (decide (0 ≤ i) && decide (i < (↑a_l : Int)))) (cond (a_n.beq h0.length && i.toNat.blt h0.length) (w_heldInt64S_s6 z N ((h0[i.toNat]?.getD (0, 0)).fst) 0 ((h0[i.toNat]?.getD (0, 0)).snd) ((h0[i.toNat]?.getD (0, 0)).snd) ((h0[i.toNat]?.getD (0, 0)).snd) k h1 (fun q11 => cond (decide (q11 < 0)) (k0) (cond (fits IntKind.i64 (i + 1)) (kn q11 (i + 1)) (z)))) (z)) (z)) (k1 k)) (z)
def w_heldInt64SS_l0_s2 {β : Type} (z : β) (N : Nat) (a_n : Nat) (a_l : Nat) (a_c : Nat) (h0 : List (Nat × Nat)) (h1 : List (List Int)) : Nat → Int → Int → β → (Int → β) → β
  | 0, _, _, _, _ => z
  | m + 1, k, i, k0, k1 => w_heldInt64SS_l0_s2_s z N a_n a_l a_c h0 h1 k i (fun k i => w_heldInt64SS_l0_s2 z N a_n a_l a_c h0 h1 m k i k0 k1) k0 k1

/-- laws.heldInt64SS -/
def w_heldInt64SS_s2 {β : Type} (z : β) (N : Nat) (a_n : Nat) (a_l : Nat) (a_c : Nat) (k : Int) (h0 : List (Nat × Nat)) (h1 : List (List Int)) (k0 : Int → β) : β :=
  w_heldInt64SS_l0_s2 z N a_n a_l a_c h0 h1 N k 0 (k0 (-1)) (fun q9 => k0 q9)

/-- laws.eqInt64SS, loop -/
def w_eqInt64SS_l0_s3_s {β : Type} (z : β) (b_n : Nat) (b_l : Nat) (b_c : Nat) (i : Int) (h0 : List (Nat × Nat)) (h1 : List (List Int))  (kn : β) (k0 : β) : β :=
  cond (decide (i < 0)) (z) (k0)
def w_eqInt64SS_l0_s3 {β : Type} (z : β) (b_n : Nat) (b_l : Nat) (b_c : Nat) (i : Int) (h0 : List (Nat × Nat)) (h1 : List (List Int)) : Nat → β → β
  | 0, _ => z
  | m + 1, k0 => w_eqInt64SS_l0_s3_s z b_n b_l b_c i h0 h1 (w_eqInt64SS_l0_s3 z b_n b_l b_c i h0 h1 m k0) k0

/-- laws.eqInt64SS -/
def w_eqInt64SS_s3 {β : Type} (z : β) (N : Nat) (b_n : Nat) (b_l : Nat) (b_c : Nat) (h0 : List (Nat × Nat)) (h1 : List (List Int)) (k0 : Bool → β) : β :=
  cond (b_l.ble 9223372036854775807) (cond (0 != (↑b_l : Int)) (k0 false) (w_eqInt64SS_l0_s3 z b_n b_l b_c 0 h0 h1 N (k0 true))) (z)

/-- laws.eqInt64S, loop -/
def w_eqInt64S_l0_s12_s {β : Type} (z : β) (a_r : Nat) (a_o : Nat) (a_n : Nat) (a_l : Nat) (a_c : Nat) (b_r : Nat) (b_o : Nat) (b_n : Nat) (b_l : Nat) (b_c : Nat) (h0 : List (List Int)) (h1 : List (List Int)) (i : Int) (kn : Int → β) (k0 : β) (k1 : β) : β :=
  cond (a_l.ble 9223372036854775807) (cond (decide (i < (↑a_l : Int))) (cond (a_n.beq (h0[a_r]?.getD []).length && (decide (0 ≤ i) && decide (i < (↑a_l : Int)))) (cond (a_n.beq (h0[a_r]?.getD []).length && (addO a_o i.toNat).blt (h0[a_r]?.getD []).length) (cond (b_n.beq (h1[b_r]?.getD []).length && (decide (0 ≤ i) && decide (i < (↑b_l : Int)))) (cond (b_n.beq (h1[b_r]?.getD []).length && (addO b_o i.toNat).blt (h1[b_r]?.getD []).length) (cond ((h0[a_r]?.getD [])[addO a_o i.toNat]?.getD 0 != (h1[b_r]?.getD [])[addO b_o i.toNat]?.getD 0) (k0) (cond (fits IntKind.i64 (i + 1)) (kn (i + 1)) (z))) (z)) (z)) (z)) (z)) (k1)) (z)
def w_eqInt64S_l0_s12 {β : Type} (z : β) (a_r : Nat) (a_o : Nat) (a_n : Nat) (a_l : Nat) (a_c : Nat) (b_r : Nat) (b_o : Nat) (b_n : Nat) (b_l : Nat) (b_c : Nat) (h0 : List (List Int)) (h1 : List (List Int)) : Nat → Int → β → β → β
  | 0, _, _, _ => z
  | m + 1, i, k0, k1 => w_eqInt64S_l0_s12_s z a_r a_o a_n a_l a_c b_r b_o b_n b_l b_c h0 h1 i (fun i => w_eqInt64S_l0_s12 z a_r a_o a_n a_l a_c b_r b_o b_n b_l b_c h0 h1 m i k0 k1) k0 k1

/-- laws.eqInt64S -/
def w_eqInt64S_s14 {β : Type} (z : β) (N : Nat) (a_r : Nat) (a_o : Nat) (a_n : Nat) (a_l : Nat) (a_c : Nat) (b_r : Nat) (b_o : Nat) (b_n : Nat) (b_l : Nat) (b_c : Nat) (h0 : List (List Int)) (h1 : List (List Int)) (k0 : Bool → β) : β :=
  cond (a_l.ble 9223372036854775807) (cond (b_l.ble 9223372036854775807) (cond ((↑a_l : Int) != (↑b_l : Int)) (k0 false) (w_eqInt64S_l0_s12 z a_r a_o a_n a_l a_c b_r b_o b_n b_l b_c h0 h1 N 0 (k0 false) (k0 true))) (z)) (z)

/-- laws.eqInt64SS, loop -/
def w_eqInt64SS_l0_s4_s {β : Type} (z : β) (N : Nat) (a_n : Nat) (a_l : Nat) (a_c : Nat) (b_n : Nat) (b_l : Nat) (b_c : Nat) (h0 : List (Nat × Nat)) (h1 : List (Nat × Nat)) (h2 : List (List Int)) (h3 : List (List Int)) (i : Int) (kn : Int → β) (k0 : β) (k1 : β) : β :=
  cond (a_l.ble 9223372036854775807) (cond (decide (i < (↑a_l : Int))) (cond (a_n.beq h0.length && (decide (0 ≤ i) && decide (i < (↑a_l : Int)))) (cond (a_n.beq h0.length && i.toNat.blt h0.length) (cond (b_n.beq h1.length && (decide (0 ≤ i) && decide (i < (↑b_l : Int)))) (cond (b_n.beq h1.length && i.toNat.blt h1.length) (w_eqInt64S_s14 z N ((h0[i.toNat]?.getD (0, 0)).fst) 0 ((h0[i.toNat]?.getD (0, 0)).snd) ((h0[i.toNat]?.getD (0, 0)).snd) ((h0[i.toNat]?.getD (0, 0)).snd) ((h1[i.toNat]?.getD (0, 0)).fst) 0 ((h1[i.toNat]?.getD (0, 0)).snd) ((h1[i.toNat]?.getD (0, 0)).snd) ((h1[i.toNat]?.getD (0, 0)).snd) h2 h3 (fun q15 => cond (!q15) (k0) (cond (fits IntKind.i64 (i + 1)) (kn (i + 1)) (z)))) (z)) (z)) (z)) (z)) (k1)) (z)
def w_eqInt64SS_l0_s4 {β : Type} (z : β) (N : Nat) (a_n : Nat) (a_l : Nat) (a_c : Nat) (b_n : Nat) (b_l : Nat) (b_c : Nat) (h0 : List (Nat × Nat)) (h1 : List (Nat × Nat)) (h2 : List (List Int)) (h3 : List (List Int)) : Nat → Int → β → β → β
  | 0, _, _, _ => z
  | m + 1, i, k0, k1 => w_eqInt64SS_l0_s4_s z N a_n a_l a_c b_n b_l b_c h0 h1 h2 h3 i (fun i => w_eqInt64SS_l0_s4 z N a_n a_l a_c b_n b_l b_c h0 h1 h2 h3 m i k0 k1) k0 k1

/-- laws.eqInt64SS -/
def w_eqInt64SS_s4 {β : Type} (z : β) (N : Nat) (a_n : Nat) (a_l : Nat) (a_c : Nat) (b_n : Nat) (b_l : Nat) (b_c : Nat) (h0 : List (Nat × Nat)) (h1 : List (Nat × Nat)) (h2 : List (List Int)) (h3 : List (List Int)) (k0 : Bool → β) : β :=
  cond (a_l.ble 9223372036854775807) (cond (b_l.ble 9223372036854775807) (cond ((↑a_l : Int) != (↑b_l : Int)) (k0 false) (w_eqInt64SS_l0_s4 z N a_n a_l a_c b_n b_l b_c h0 h1 h2 h3 N 0 (k0 false) (k0 true))) (z)) (z)

/-- laws.FnExactRelationsOf -/
def w_FnExactRelationsOf {β : Type} (z : β) (N : Nat) (aG_0 : Int) (aG_1 : Nat → Int) (aG_2 : Nat → Int) (k0 : Bool → β) : β :=
  w_toGrid z N aG_0 aG_1 aG_2 (fun q6 q7 => s_RelationsOf z N aG_0 q6 q7 (fun q8 => w_toGrid z N aG_0 aG_1 aG_2 (fun q9 q10 => i_RelationsOf z N aG_0 q9 q10 (fun q11 => w_eqInt64SS z N (fun q12 => cond (!q12) (k0 false) (cond (q11 != q8) (k0 false) (w_markInt64SS z N 1 (w_heldInt64SS z N 1 (w_toGrid z N aG_0 aG_1 aG_2 (fun q13 q14 => i_RelationsOf z N aG_0 q13 q14 (fun q15 => w_eqInt64SS z N (fun q16 => cond (!q16) (k0 false) (cond (q15 != q8) (k0 false) (w_heldInt64SS z N 1 (k0 true))))) (fun q15 q16 q17 q18 q19 q20 => w_eqInt64SS_s2 z N q15 q16 q17 q19 q20 (fun q21 => cond (!q21) (k0 false) (cond (q18 != q8) (k0 false) (w_heldInt64SS z N 1 (k0 true)))))))))))) (fun q11 q12 q13 q14 q15 q16 => w_eqInt64SS_s2 z N q11 q12 q13 q15 q16 (fun q17 => cond (!q17) (k0 false) (cond (q14 != q8) (k0 false) (w_markInt64SS_s2 z N q11 q12 q13 1 q15 q16 (fun q18 q19 => w_heldInt64SS_s2 z N q11 q12 q13 1 q15 q19 (fun q20 => cond (decide (q20 < 0)) (k0 false) (cond (q20 != q18) (k0 false) (w_toGrid z N aG_0 aG_1 aG_2 (fun q21 q22 => i_RelationsOf z N aG_0 q21 q22 (fun q23 => w_eqInt64SS z N (fun q24 => cond (!q24) (k0 false) (cond (q23 != q8) (k0 false) (w_heldInt64SS_s2 z N q11 q12 q13 1 q15 q19 (fun q25 => cond (decide (q25 < 0)) (k0 false) (cond (q25 != q18) (k0 false) (k0 true))))))) (fun q23 q24 q25 q26 q27 q28 => w_eqInt64SS_s2 z N q23 q24 q25 q27 q28 (fun q29 => cond (!q29) (k0 false) (cond (q26 != q8) (k0 false) (w_heldInt64SS_s2 z N q11 q12 q13 1 q15 q19 (fun q30 => cond (decide (q30 < 0)) (k0 false) (cond (q30 != q18) (k0 false) (k0 true)))))))))))))))))) (fun q8 q9 q10 q11 q12 q13 => w_toGrid z N aG_0 aG_1 aG_2 (fun q14 q15 => i_RelationsOf z N aG_0 q14 q15 (fun q16 => w_eqInt64SS_s3 z N q8 q9 q10 q12 q13 (fun q17 => cond (!q17) (k0 false) (cond (q16 != q11) (k0 false) (w_markInt64SS z N 1 (w_heldInt64SS z N 1 (w_toGrid z N aG_0 aG_1 aG_2 (fun q18 q19 => i_RelationsOf z N aG_0 q18 q19 (fun q20 => w_eqInt64SS_s3 z N q8 q9 q10 q12 q13 (fun q21 => cond (!q21) (k0 false) (cond (q20 != q11) (k0 false) (w_heldInt64SS z N 1 (k0 true))))) (fun q20 q21 q22 q23 q24 q25 => w_eqInt64SS_s4 z N q20 q21 q22 q8 q9 q10 q24 q12 q25 q13 (fun q26 => cond (!q26) (k0 false) (cond (q23 != q11) (k0 false) (w_heldInt64SS z N 1 (k0 true)))))))))))) (fun q16 q17 q18 q19 q20 q21 => w_eqInt64SS_s4 z N q16 q17 q18 q8 q9 q10 q20 q12 q21 q13 (fun q22 => cond (!q22) (k0 false) (cond (q19 != q11) (k0 false) (w_markInt64SS_s2 z N q16 q17 q18 1 q20 q21 (fun q23 q24 => w_heldInt64SS_s2 z N q16 q17 q18 1 q20 q24 (fun q25 => cond (decide (q25 < 0)) (k0 false) (cond (q25 != q23) (k0 false) (w_toGrid z N aG_0 aG_1 aG_2 (fun q26 q27 => i_RelationsOf z N aG_0 q26 q27 (fun q28 => w_eqInt64SS_s3 z N q8 q9 q10 q12 q13 (fun q29 => cond (!q29) (k0 false) (cond (q28 != q11) (k0 false) (w_heldInt64SS_s2 z N q16 q17 q18 1 q20 q24 (fun q30 => cond (decide (q30 < 0)) (k0 false) (cond (q30 != q23) (k0 false) (k0 true))))))) (fun q28 q29 q30 q31 q32 q33 => w_eqInt64SS_s4 z N q28 q29 q30 q8 q9 q10 q32 q12 q33 q13 (fun q34 => cond (!q34) (k0 false) (cond (q31 != q11) (k0 false) (w_heldInt64SS_s2 z N q16 q17 q18 1 q20 q24 (fun q35 => cond (decide (q35 < 0)) (k0 false) (cond (q35 != q23) (k0 false) (k0 true)))))))))))))))))))
end Go.AM
