/- A part of a proof about the given program: an abstract machine, what the given functions come to, and plain laws. -/
import Derived.Test.YtijijnfmcmeioaaDIsMosaic
import Derived.Test.YtijijnfmcmeioaaDLowerState
set_option maxRecDepth 100000
namespace Go.AM
/-- spec.TransposeOf, loop -/
def s_TransposeOf_l0_s {β : Type} (z : β) (h0_0 : Int) (h0_1 : Nat → Int) (h0_2 : Nat → Int) (h1_0 : Int) (h1_1 : Nat → Int) (h1_2 : Nat → Int) (h2_0 : Int) (i : Int) (h2_1 : Nat → Int) (h2_2 : Nat → Int) (kn : Int → (Nat → Int) → (Nat → Int) → β) (k0 : (Nat → Int) → (Nat → Int) → β) : β :=
  cond (decide (i < h0_0)) (cond (decide (0 ≤ i) && decide (i < (↑8 : Int))) (cond (i.toNat.blt 8) (cond (decide (0 ≤ h0_1 i.toNat) && decide (h0_1 i.toNat < (↑8 : Int))) (cond ((h0_1 i.toNat).toNat.blt 8) (cond (decide (0 ≤ i) && decide (i < (↑8 : Int))) (cond (i.toNat.blt 8) (cond (decide (0 ≤ h0_2 i.toNat) && decide (h0_2 i.toNat < (↑8 : Int))) (cond ((h0_2 i.toNat).toNat.blt 8) (cond (fits IntKind.i64 (i + 1)) (kn (i + 1) (upd h2_1 (h0_2 i.toNat).toNat (wrapU IntKind.u8 i)) (upd h2_2 (h0_1 i.toNat).toNat (wrapU IntKind.u8 i))) (z)) (z)) (z)) (z)) (z)) (z)) (z)) (z)) (z)) (k0 h2_1 h2_2)
def s_TransposeOf_l0 {β : Type} (z : β) (h0_0 : Int) (h0_1 : Nat → Int) (h0_2 : Nat → Int) (h1_0 : Int) (h1_1 : Nat → Int) (h1_2 : Nat → Int) (h2_0 : Int) : Nat → Int → (Nat → Int) → (Nat → Int) → ((Nat → Int) → (Nat → Int) → β) → β
  | 0, _, _, _, _ => z
  | m + 1, i, h2_1, h2_2, k0 => s_TransposeOf_l0_s z h0_0 h0_1 h0_2 h1_0 h1_1 h1_2 h2_0 i h2_1 h2_2 (fun i h2_1 h2_2 => s_TransposeOf_l0 z h0_0 h0_1 h0_2 h1_0 h1_1 h1_2 h2_0 m i h2_1 h2_2 k0) k0

/-- spec.TransposeOf -/
def s_TransposeOf {β : Type} (z : β) (N : Nat) (g_0 : Int) (g_1 : Nat → Int) (g_2 : Nat → Int) (k0 : Int → (Nat → Int) → (Nat → Int) → Int → β) : β :=
  s_l01Is z N g_0 g_1 g_2 (fun q6 => cond (!q6) (k0 0 (fun (x : Nat) => 0) (fun (x : Nat) => 0) 1) (s_TransposeOf_l0 z g_0 g_1 g_2 0 (fun (x : Nat) => 0) (fun (x : Nat) => 0) g_0 N 0 (fun (x : Nat) => 0) (fun (x : Nat) => 0) (fun q7 q8 => k0 g_0 q7 q8 0)))

/-- (impl.Grid).transpose$1 -/
def i_Grid_transpose_1 {β : Type} (z : β) (N : Nat) (i : Int) (r_ : Int) (k0 : β) : β :=
  k0

/-- (impl.Grid).led, loop -/
def i_Grid_led_l0_s {β : Type} (z : β) (N : Nat) (t22 : Int) (h0_0 : Int) (h0_1 : Nat → Int) (h0_2 : Nat → Int) (h1_0 : Int) (h1_1 : Nat → Int) (h1_2 : Nat → Int) (h2_0 : Int) (t23 : Int) (h2_1 : Nat → Int) (h2_2 : Nat → Int) (kn : Int → (Nat → Int) → (Nat → Int) → β) (k0 : (Nat → Int) → (Nat → Int) → β) : β :=
  cond (decide (t23 < t22)) (cond (decide (0 ≤ t23) && decide (t23 < (↑8 : Int))) (cond (t23.toNat.blt 8) (i_Grid_transpose_1 z N t23 (h0_1 t23.toNat) (cond (decide (0 ≤ h0_1 t23.toNat) && decide (h0_1 t23.toNat < (↑8 : Int))) (cond ((h0_1 t23.toNat).toNat.blt 8) (cond (decide (0 ≤ t23) && decide (t23 < (↑8 : Int))) (cond (t23.toNat.blt 8) (i_Grid_transpose_1 z N t23 (h0_2 t23.toNat) (cond (decide (0 ≤ h0_2 t23.toNat) && decide (h0_2 t23.toNat < (↑8 : Int))) (cond ((h0_2 t23.toNat).toNat.blt 8) (cond (fits IntKind.i64 (t23 + 1)) (kn (t23 + 1) (upd h2_1 (h0_2 t23.toNat).toNat (wrapU IntKind.u8 t23)) (upd h2_2 (h0_1 t23.toNat).toNat (wrapU IntKind.u8 t23))) (z)) (z)) (z))) (z)) (z)) (z)) (z))) (z)) (z)) (k0 h2_1 h2_2)
def i_Grid_led_l0 {β : Type} (z : β) (N : Nat) (t22 : Int) (h0_0 : Int) (h0_1 : Nat → Int) (h0_2 : Nat → Int) (h1_0 : Int) (h1_1 : Nat → Int) (h1_2 : Nat → Int) (h2_0 : Int) : Nat → Int → (Nat → Int) → (Nat → Int) → ((Nat → Int) → (Nat → Int) → β) → β
  | 0, _, _, _, _ => z
  | m + 1, t23, h2_1, h2_2, k0 => i_Grid_led_l0_s z N t22 h0_0 h0_1 h0_2 h1_0 h1_1 h1_2 h2_0 t23 h2_1 h2_2 (fun t23 h2_1 h2_2 => i_Grid_led_l0 z N t22 h0_0 h0_1 h0_2 h1_0 h1_1 h1_2 h2_0 m t23 h2_1 h2_2 k0) k0

/-- (impl.Grid).led, loop -/
def i_Grid_led_l0_s2_s {β : Type} (z : β) (N : Nat) (t22 : Int) (h0_0 : Int) (h0_1 : Nat → Int) (h0_2 : Nat → Int) (h1_0 : Int) (h1_1 : Nat → Int) (h1_2 : Nat → Int) (h2_0 : Int) (t23 : Int) (h2_1 : Nat → Int) (h2_2 : Nat → Int) (kn : Int → (Nat → Int) → (Nat → Int) → β) (k0 : (Nat → Int) → (Nat → Int) → β) : β :=
  cond (decide (t23 < t22)) (cond (decide (0 ≤ t23) && decide (t23 < (↑8 : Int))) (cond (t23.toNat.blt 8) (i_Grid_transpose_1 z N t23 (h0_1 t23.toNat) (cond (decide (0 ≤ h0_1 t23.toNat) && decide (h0_1 t23.toNat < (↑8 : Int))) (cond ((h0_1 t23.toNat).toNat.blt 8) (cond (decide (0 ≤ t23) && decide (t23 < (↑8 : Int))) (cond (t23.toNat.blt 8) (i_Grid_transpose_1 z N t23 (h0_2 t23.toNat) (cond (decide (0 ≤ h0_2 t23.toNat) && decide (h0_2 t23.toNat < (↑8 : Int))) (cond ((h0_2 t23.toNat).toNat.blt 8) (cond (fits IntKind.i64 (t23 + 1)) (kn (t23 + 1) (upd h2_1 (h0_1 t23.toNat).toNat (wrapU IntKind.u8 t23)) (upd h2_2 (h0_2 t23.toNat).toNat (wrapU IntKind.u8 t23))) (z)) (z)) (z))) (z)) (z)) (z)) (z))) (z)) (z)) (k0 h2_1 h2_2)
def i_Grid_led_l0_s2 {β : Type} (z : β) (N : Nat) (t22 : Int) (h0_0 : Int) (h0_1 : Nat → Int) (h0_2 : Nat → Int) (h1_0 : Int) (h1_1 : Nat → Int) (h1_2 : Nat → Int) (h2_0 : Int) : Nat → Int → (Nat → Int) → (Nat → Int) → ((Nat → Int) → (Nat → Int) → β) → β
  | 0, _, _, _, _ => z
  | m + 1, t23, h2_1, h2_2, k0 => i_Grid_led_l0_s2_s z N t22 h0_0 h0_1 h0_2 h1_0 h1_1 h1_2 h2_0 t23 h2_1 h2_2 (fun t23 h2_1 h2_2 => i_Grid_led_l0_s2 z N t22 h0_0 h0_1 h0_2 h1_0 h1_1 h1_2 h2_0 m t23 h2_1 h2_2 k0) k0

/-- (impl.Grid).led -/
def i_Grid_led {β : Type} (z : β) (N : Nat) (g_0 : Int) (g_1 : Nat → Int) (g_2 : Nat → Int) (exchanged : Bool) (k0 : (Nat → Int) → (Nat → Int) → β) : β :=
  cond (exchanged) (i_Grid_n z N g_0 g_1 g_2 (i_Grid_led_l0 z N g_0 g_0 g_1 g_2 0 (fun (x : Nat) => 0) (fun (x : Nat) => 0) g_0 N 0 (fun (x : Nat) => 0) (fun (x : Nat) => 0) (fun q7 q8 => k0 q7 q8))) (i_Grid_n z N g_0 g_1 g_2 (i_Grid_led_l0_s2 z N g_0 g_0 g_1 g_2 0 (fun (x : Nat) => 0) (fun (x : Nat) => 0) g_0 N 0 (fun (x : Nat) => 0) (fun (x : Nat) => 0) (fun q7 q8 => k0 q7 q8)))

/-- (impl.Grid).transpose -/
def i_Grid_transpose {β : Type} (z : β) (N : Nat) (g_0 : Int) (g_1 : Nat → Int) (g_2 : Nat → Int) (k0 : (Nat → Int) → (Nat → Int) → β) : β :=
  i_Grid_led z N g_0 g_1 g_2 true (fun q6 q7 => k0 q6 q7)

/-- impl.whole[impl.Grid] -/
def i_whole_i_Grid {β : Type} (z : β) (N : Nat) (g_0 : Int) (g_1 : Nat → Int) (g_2 : Nat → Int) (k0 : Int → (Nat → Int) → (Nat → Int) → Int → β) : β :=
  i_IsGrid z N g_0 g_1 g_2 (fun q6 => cond (!q6) (k0 0 (fun (x : Nat) => 0) (fun (x : Nat) => 0) 1) (i_Grid_transpose z N g_0 g_1 g_2 (fun q7 q8 => k0 g_0 q7 q8 0)))

/-- impl.TransposeOf -/
def i_TransposeOf {β : Type} (z : β) (N : Nat) (g_0 : Int) (g_1 : Nat → Int) (g_2 : Nat → Int) (k0 : Int → (Nat → Int) → (Nat → Int) → Int → β) : β :=
  i_whole_i_Grid z N g_0 g_1 g_2 (fun q6 q7 q8 q9 => k0 q6 q7 q8 q9)

/-- laws.eqByteA8, loop -/
def w_eqByteA8_l0_s {β : Type} (z : β) (h0 : Nat → Int) (h1 : Nat → Int) (i : Int) (kn : Int → β) (k0 : β) (k1 : β) : β :=
  cond (decide (i < 8)) (cond (decide (0 ≤ i) && decide (i < (↑8 : Int))) (cond (i.toNat.blt 8) (cond (decide (0 ≤ i) && decide (i < (↑8 : Int))) (cond (i.toNat.blt 8) (cond (h0 i.toNat != h1 i.toNat) (k0) (cond (fits IntKind.i64 (i + 1)) (kn (i + 1)) (z))) (z)) (z)) (z)) (z)) (k1)
def w_eqByteA8_l0 {β : Type} (z : β) (h0 : Nat → Int) (h1 : Nat → Int) : Nat → Int → β → β → β
  | 0, _, _, _ => z
  | m + 1, i, k0, k1 => w_eqByteA8_l0_s z h0 h1 i (fun i => w_eqByteA8_l0 z h0 h1 m i k0 k1) k0 k1

/-- laws.eqByteA8 -/
def w_eqByteA8 {β : Type} (z : β) (N : Nat) (a : Nat → Int) (b : Nat → Int) (k0 : Bool → β) : β :=
  w_eqByteA8_l0 z a b N 0 (k0 false) (k0 true)

/-- laws.eqGrid -/
def w_eqGrid {β : Type} (z : β) (N : Nat) (a_0 : Int) (a_1 : Nat → Int) (a_2 : Nat → Int) (b_0 : Int) (b_1 : Nat → Int) (b_2 : Nat → Int) (k0 : Bool → β) : β :=
  cond (a_0 != b_0) (k0 false) (w_eqByteA8 z N a_1 b_1 (fun q9 => cond (!q9) (k0 false) (w_eqByteA8 z N a_2 b_2 (fun q10 => cond (!q10) (k0 false) (k0 true)))))

/-- laws.FnExactTransposeOf -/
def w_FnExactTransposeOf {β : Type} (z : β) (N : Nat) (aG_0 : Int) (aG_1 : Nat → Int) (aG_2 : Nat → Int) (k0 : Bool → β) : β :=
  w_toGrid z N aG_0 aG_1 aG_2 (fun q6 q7 => s_TransposeOf z N aG_0 q6 q7 (fun q8 q9 q10 q11 => w_toGrid z N aG_0 aG_1 aG_2 (fun q12 q13 => i_TransposeOf z N aG_0 q12 q13 (fun q14 q15 q16 q17 => w_eqGrid z N q14 q15 q16 q8 q9 q10 (fun q18 => cond (!q18) (k0 false) (cond (q17 != q11) (k0 false) (k0 true)))))))
end Go.AM
