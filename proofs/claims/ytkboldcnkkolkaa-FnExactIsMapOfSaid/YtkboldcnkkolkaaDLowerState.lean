/- A part of a proof about the given program: an abstract machine, what the given functions come to, and plain laws. -/
import Derived.Test.YtkboldcnkkolkaaDIsMosaic
set_option maxRecDepth 100000
namespace Go.AM
/-- laws.toByteA8, loop -/
def w_toByteA8_l0_s {β : Type} (z : β) (h0 : Nat → Int) (h1 : Nat → Int) (i : Int) (h2 : Nat → Int) (kn : Int → (Nat → Int) → β) (k0 : (Nat → Int) → β) : β :=
  cond (decide (i < 8)) (cond (decide (0 ≤ i) && decide (i < (↑8 : Int))) (cond (i.toNat.blt 8) (cond (decide (0 ≤ i) && decide (i < (↑8 : Int))) (cond (i.toNat.blt 8) (cond (fits IntKind.i64 (i + 1)) (kn (i + 1) (upd h2 i.toNat (h0 i.toNat))) (z)) (z)) (z)) (z)) (z)) (k0 h2)
def w_toByteA8_l0 {β : Type} (z : β) (h0 : Nat → Int) (h1 : Nat → Int) : Nat → Int → (Nat → Int) → ((Nat → Int) → β) → β
  | 0, _, _, _ => z
  | m + 1, i, h2, k0 => w_toByteA8_l0_s z h0 h1 i h2 (fun i h2 => w_toByteA8_l0 z h0 h1 m i h2 k0) k0

/-- laws.toByteA8 -/
def w_toByteA8 {β : Type} (z : β) (N : Nat) (a : Nat → Int) (k0 : (Nat → Int) → β) : β :=
  w_toByteA8_l0 z a (fun (x : Nat) => 0) N 0 (fun (x : Nat) => 0) (fun q4 => k0 q4)

/-- laws.toGrid -/
def w_toGrid {β : Type} (z : β) (N : Nat) (a_0 : Int) (a_1 : Nat → Int) (a_2 : Nat → Int) (k0 : (Nat → Int) → (Nat → Int) → β) : β :=
  w_toByteA8 z N a_1 (fun q6 => w_toByteA8 z N a_2 (fun q7 => k0 q6 q7))

/-- spec.l01Perm, loop -/
def s_l01Perm_l0_s {β : Type} (z : β) (n : Int) (h0 : Nat → Int) (i : Int) (h1 : Nat → Bool) (kn : Int → (Nat → Bool) → β) (k0 : (Nat → Bool) → β) (k1 : (Nat → Bool) → β) : β :=
  cond (decide (i < 8)) (cond (decide (n ≤ i)) (cond (decide (0 ≤ i) && decide (i < (↑8 : Int))) (cond (i.toNat.blt 8) (cond (h0 i.toNat != 0) (k0 h1) (cond (fits IntKind.i64 (i + 1)) (kn (i + 1) h1) (z))) (z)) (z)) (cond (decide (0 ≤ i) && decide (i < (↑8 : Int))) (cond (i.toNat.blt 8) (cond (decide (n ≤ h0 i.toNat)) (k0 h1) (cond (decide (0 ≤ i) && decide (i < (↑8 : Int))) (cond (i.toNat.blt 8) (cond (decide (0 ≤ h0 i.toNat) && decide (h0 i.toNat < (↑8 : Int))) (cond ((h0 i.toNat).toNat.blt 8) (cond (h1 (h0 i.toNat).toNat) (k0 h1) (cond (decide (0 ≤ i) && decide (i < (↑8 : Int))) (cond (i.toNat.blt 8) (cond (decide (0 ≤ h0 i.toNat) && decide (h0 i.toNat < (↑8 : Int))) (cond ((h0 i.toNat).toNat.blt 8) (cond (fits IntKind.i64 (i + 1)) (kn (i + 1) (upd h1 (h0 i.toNat).toNat true)) (z)) (z)) (z)) (z)) (z))) (z)) (z)) (z)) (z))) (z)) (z))) (k1 h1)
def s_l01Perm_l0 {β : Type} (z : β) (n : Int) (h0 : Nat → Int) : Nat → Int → (Nat → Bool) → ((Nat → Bool) → β) → ((Nat → Bool) → β) → β
  | 0, _, _, _, _ => z
  | m + 1, i, h1, k0, k1 => s_l01Perm_l0_s z n h0 i h1 (fun i h1 => s_l01Perm_l0 z n h0 m i h1 k0 k1) k0 k1

/-- spec.l01Perm -/
def s_l01Perm {β : Type} (z : β) (N : Nat) (list : Nat → Int) (n : Int) (k0 : Bool → β) : β :=
  s_l01Perm_l0 z n list N 0 (fun (x : Nat) => false) (fun q5 => k0 false) (fun q5 => k0 true)

/-- spec.l01Is, loop -/
def s_l01Is_l0_s {β : Type} (z : β) (h0_0 : Int) (h0_1 : Nat → Int) (h0_2 : Nat → Int) (i : Int) (kn : Int → β) (k0 : β) (k1 : β) : β :=
  cond (decide (i < h0_0)) (cond (decide (0 ≤ i) && decide (i < (↑8 : Int))) (cond (i.toNat.blt 8) (cond (decide (0 ≤ i) && decide (i < (↑8 : Int))) (cond (i.toNat.blt 8) (cond (h0_1 i.toNat == h0_2 i.toNat) (k0) (cond (fits IntKind.i64 (i + 1)) (kn (i + 1)) (z))) (z)) (z)) (z)) (z)) (k1)
def s_l01Is_l0 {β : Type} (z : β) (h0_0 : Int) (h0_1 : Nat → Int) (h0_2 : Nat → Int) : Nat → Int → β → β → β
  | 0, _, _, _ => z
  | m + 1, i, k0, k1 => s_l01Is_l0_s z h0_0 h0_1 h0_2 i (fun i => s_l01Is_l0 z h0_0 h0_1 h0_2 m i k0 k1) k0 k1

/-- spec.l01Is -/
def s_l01Is {β : Type} (z : β) (N : Nat) (g_0 : Int) (g_1 : Nat → Int) (g_2 : Nat → Int) (k0 : Bool → β) : β :=
  s_l01In z N g_0 2 8 (fun q6 => cond (!q6) (k0 false) (s_l01Perm z N g_1 g_0 (fun q7 => cond (!q7) (k0 false) (s_l01Perm z N g_2 g_0 (fun q8 => cond (!q8) (k0 false) (s_l01Is_l0 z g_0 g_1 g_2 N 0 (k0 false) (k0 true)))))))

/-- spec.LowerState -/
def s_LowerState {β : Type} (z : β) (N : Nat) (g_0 : Int) (g_1 : Nat → Int) (g_2 : Nat → Int) (k0 : (Nat → Int) → Int → β) : β :=
  s_l01Is z N g_0 g_1 g_2 (fun q6 => cond (!q6) (k0 (fun (x : Nat) => 0) 1) (k0 g_1 0))

/-- (impl.Grid).n -/
def i_Grid_n {β : Type} (z : β) (N : Nat) (g_0 : Int) (g_1 : Nat → Int) (g_2 : Nat → Int) (k0 : β) : β :=
  k0

/-- impl.isOrder, loop -/
def i_isOrder_l0_s2_s {β : Type} (z : β) (n : Int) (h0_0 : Int) (h0_1 : Nat → Int) (h0_2 : Nat → Int) (seen : Int) (t10 : Int) (kn : Int → Int → β) (k0 : β) (k1 : Int → β) : β :=
  cond (decide (t10 < 8)) (cond (decide (0 ≤ t10) && decide (t10 < (↑8 : Int))) (cond (t10.toNat.blt 8) (cond (decide (n ≤ t10)) (cond (h0_1 t10.toNat != 0) (k0) (cond (decide (n ≤ h0_1 t10.toNat)) (k0) (cond (decide (t10 < n)) (cond (decide (0 ≤ h0_1 t10.toNat) && decide (h0_1 t10.toNat < (↑64 : Int))) (cond (fits IntKind.i64 (shlI 1 (h0_1 t10.toNat))) (cond (fits IntKind.i64 (t10 + 1)) (kn (bitI BinOp.or IntKind.i64 seen (shlI 1 (h0_1 t10.toNat))) (t10 + 1)) (z)) (z)) (z)) (cond (fits IntKind.i64 (t10 + 1)) (kn seen (t10 + 1)) (z))))) (cond (decide (n ≤ h0_1 t10.toNat)) (k0) (cond (decide (t10 < n)) (cond (decide (0 ≤ h0_1 t10.toNat) && decide (h0_1 t10.toNat < (↑64 : Int))) (cond (fits IntKind.i64 (shlI 1 (h0_1 t10.toNat))) (cond (fits IntKind.i64 (t10 + 1)) (kn (bitI BinOp.or IntKind.i64 seen (shlI 1 (h0_1 t10.toNat))) (t10 + 1)) (z)) (z)) (z)) (cond (fits IntKind.i64 (t10 + 1)) (kn seen (t10 + 1)) (z))))) (z)) (z)) (k1 seen)
def i_isOrder_l0_s2 {β : Type} (z : β) (n : Int) (h0_0 : Int) (h0_1 : Nat → Int) (h0_2 : Nat → Int) : Nat → Int → Int → β → (Int → β) → β
  | 0, _, _, _, _ => z
  | m + 1, seen, t10, k0, k1 => i_isOrder_l0_s2_s z n h0_0 h0_1 h0_2 seen t10 (fun seen t10 => i_isOrder_l0_s2 z n h0_0 h0_1 h0_2 m seen t10 k0 k1) k0 k1

/-- impl.isOrder -/
def i_isOrder_s2 {β : Type} (z : β) (N : Nat) (n : Int) (h0_0 : Int) (h0_1 : Nat → Int) (h0_2 : Nat → Int) (k0 : Bool → β) : β :=
  i_isOrder_l0_s2 z n h0_0 h0_1 h0_2 N 0 0 (k0 false) (fun q7 => cond (decide (0 ≤ n) && decide (n < (↑64 : Int))) (cond (fits IntKind.i64 (shlI 1 n)) (cond (fits IntKind.i64 (shlI 1 n - 1)) (k0 (q7 == shlI 1 n - 1)) (z)) (z)) (z))

/-- impl.isOrder, loop -/
def i_isOrder_l0_s3_s {β : Type} (z : β) (n : Int) (h0_0 : Int) (h0_1 : Nat → Int) (h0_2 : Nat → Int) (seen : Int) (t10 : Int) (kn : Int → Int → β) (k0 : β) (k1 : Int → β) : β :=
  cond (decide (t10 < 8)) (cond (decide (0 ≤ t10) && decide (t10 < (↑8 : Int))) (cond (t10.toNat.blt 8) (cond (decide (n ≤ t10)) (cond (h0_2 t10.toNat != 0) (k0) (cond (decide (n ≤ h0_2 t10.toNat)) (k0) (cond (decide (t10 < n)) (cond (decide (0 ≤ h0_2 t10.toNat) && decide (h0_2 t10.toNat < (↑64 : Int))) (cond (fits IntKind.i64 (shlI 1 (h0_2 t10.toNat))) (cond (fits IntKind.i64 (t10 + 1)) (kn (bitI BinOp.or IntKind.i64 seen (shlI 1 (h0_2 t10.toNat))) (t10 + 1)) (z)) (z)) (z)) (cond (fits IntKind.i64 (t10 + 1)) (kn seen (t10 + 1)) (z))))) (cond (decide (n ≤ h0_2 t10.toNat)) (k0) (cond (decide (t10 < n)) (cond (decide (0 ≤ h0_2 t10.toNat) && decide (h0_2 t10.toNat < (↑64 : Int))) (cond (fits IntKind.i64 (shlI 1 (h0_2 t10.toNat))) (cond (fits IntKind.i64 (t10 + 1)) (kn (bitI BinOp.or IntKind.i64 seen (shlI 1 (h0_2 t10.toNat))) (t10 + 1)) (z)) (z)) (z)) (cond (fits IntKind.i64 (t10 + 1)) (kn seen (t10 + 1)) (z))))) (z)) (z)) (k1 seen)
def i_isOrder_l0_s3 {β : Type} (z : β) (n : Int) (h0_0 : Int) (h0_1 : Nat → Int) (h0_2 : Nat → Int) : Nat → Int → Int → β → (Int → β) → β
  | 0, _, _, _, _ => z
  | m + 1, seen, t10, k0, k1 => i_isOrder_l0_s3_s z n h0_0 h0_1 h0_2 seen t10 (fun seen t10 => i_isOrder_l0_s3 z n h0_0 h0_1 h0_2 m seen t10 k0 k1) k0 k1

/-- impl.isOrder -/
def i_isOrder_s3 {β : Type} (z : β) (N : Nat) (n : Int) (h0_0 : Int) (h0_1 : Nat → Int) (h0_2 : Nat → Int) (k0 : Bool → β) : β :=
  i_isOrder_l0_s3 z n h0_0 h0_1 h0_2 N 0 0 (k0 false) (fun q7 => cond (decide (0 ≤ n) && decide (n < (↑64 : Int))) (cond (fits IntKind.i64 (shlI 1 n)) (cond (fits IntKind.i64 (shlI 1 n - 1)) (k0 (q7 == shlI 1 n - 1)) (z)) (z)) (z))

/-- impl.IsGrid, loop -/
def i_IsGrid_l0_s {β : Type} (z : β) (t25 : Int) (h0_0 : Int) (h0_1 : Nat → Int) (h0_2 : Nat → Int) (t26 : Int) (kn : Int → β) (k0 : β) (k1 : β) : β :=
  cond (decide (t26 < t25)) (cond (decide (0 ≤ t26) && decide (t26 < (↑8 : Int))) (cond (t26.toNat.blt 8) (cond (decide (0 ≤ t26) && decide (t26 < (↑8 : Int))) (cond (t26.toNat.blt 8) (cond (h0_1 t26.toNat == h0_2 t26.toNat) (k0) (cond (fits IntKind.i64 (t26 + 1)) (kn (t26 + 1)) (z))) (z)) (z)) (z)) (z)) (k1)
def i_IsGrid_l0 {β : Type} (z : β) (t25 : Int) (h0_0 : Int) (h0_1 : Nat → Int) (h0_2 : Nat → Int) : Nat → Int → β → β → β
  | 0, _, _, _ => z
  | m + 1, t26, k0, k1 => i_IsGrid_l0_s z t25 h0_0 h0_1 h0_2 t26 (fun t26 => i_IsGrid_l0 z t25 h0_0 h0_1 h0_2 m t26 k0 k1) k0 k1

/-- impl.IsGrid -/
def i_IsGrid {β : Type} (z : β) (N : Nat) (g_0 : Int) (g_1 : Nat → Int) (g_2 : Nat → Int) (k0 : Bool → β) : β :=
  i_within z N g_0 2 8 (fun q6 => cond (!q6) (k0 false) (i_Grid_n z N g_0 g_1 g_2 (i_isOrder_s2 z N g_0 g_0 g_1 g_2 (fun q7 => cond (!q7) (k0 false) (i_Grid_n z N g_0 g_1 g_2 (i_isOrder_s3 z N g_0 g_0 g_1 g_2 (fun q8 => cond (!q8) (k0 false) (i_Grid_n z N g_0 g_1 g_2 (i_IsGrid_l0 z g_0 g_0 g_1 g_2 N 0 (k0 false) (k0 true))))))))))

/-- impl.LowerState$1 -/
def i_LowerState_1 {β : Type} (z : β) (N : Nat) (g_0 : Int) (g_1 : Nat → Int) (g_2 : Nat → Int) (k0 : β) : β :=
  k0

/-- impl.whole[impl.State] -/
def i_whole_i_State {β : Type} (z : β) (N : Nat) (g_0 : Int) (g_1 : Nat → Int) (g_2 : Nat → Int) (k0 : (Nat → Int) → Int → β) : β :=
  i_IsGrid z N g_0 g_1 g_2 (fun q6 => cond (!q6) (k0 (fun (x : Nat) => 0) 1) (i_LowerState_1 z N g_0 g_1 g_2 (k0 g_1 0)))

/-- impl.LowerState -/
def i_LowerState {β : Type} (z : β) (N : Nat) (g_0 : Int) (g_1 : Nat → Int) (g_2 : Nat → Int) (k0 : (Nat → Int) → Int → β) : β :=
  i_whole_i_State z N g_0 g_1 g_2 (fun q6 q7 => k0 q6 q7)

/-- laws.eqState, loop -/
def w_eqState_l0_s {β : Type} (z : β) (h0 : Nat → Int) (h1 : Nat → Int) (i : Int) (kn : Int → β) (k0 : β) (k1 : β) : β :=
  cond (decide (i < 8)) (cond (decide (0 ≤ i) && decide (i < (↑8 : Int))) (cond (i.toNat.blt 8) (cond (decide (0 ≤ i) && decide (i < (↑8 : Int))) (cond (i.toNat.blt 8) (cond (h0 i.toNat != h1 i.toNat) (k0) (cond (fits IntKind.i64 (i + 1)) (kn (i + 1)) (z))) (z)) (z)) (z)) (z)) (k1)
def w_eqState_l0 {β : Type} (z : β) (h0 : Nat → Int) (h1 : Nat → Int) : Nat → Int → β → β → β
  | 0, _, _, _ => z
  | m + 1, i, k0, k1 => w_eqState_l0_s z h0 h1 i (fun i => w_eqState_l0 z h0 h1 m i k0 k1) k0 k1

/-- laws.eqState -/
def w_eqState {β : Type} (z : β) (N : Nat) (a : Nat → Int) (b : Nat → Int) (k0 : Bool → β) : β :=
  w_eqState_l0 z a b N 0 (k0 false) (k0 true)

/-- laws.FnExactLowerState -/
def w_FnExactLowerState {β : Type} (z : β) (N : Nat) (aG_0 : Int) (aG_1 : Nat → Int) (aG_2 : Nat → Int) (k0 : Bool → β) : β :=
  w_toGrid z N aG_0 aG_1 aG_2 (fun q6 q7 => s_LowerState z N aG_0 q6 q7 (fun q8 q9 => w_toGrid z N aG_0 aG_1 aG_2 (fun q10 q11 => i_LowerState z N aG_0 q10 q11 (fun q12 q13 => w_eqState z N q12 q8 (fun q14 => cond (!q14) (k0 false) (cond (q13 != q9) (k0 false) (k0 true)))))))
end Go.AM
