/- A part of a proof about the given program: an abstract machine, what the given functions come to, and plain laws. -/
import Derived.Test.YtijijnfmcmeioaaDIsMosaic
import Derived.Test.YtijijnfmcmeioaaDLowerState
import Derived.Test.YtijijnfmcmeioaaDTransposeOf
set_option maxRecDepth 100000
namespace Go.AM
/-- spec.l01Rolled, loop -/
def s_l01Rolled_l0_s {β : Type} (z : β) (t1 : Int) (t2 : Int) (t7 : Int) (h0_0 : Int) (h0_1 : Nat → Int) (h0_2 : Nat → Int) (h1_0 : Int) (h1_1 : Nat → Int) (h1_2 : Nat → Int) (h2_0 : Int) (t9 : Int) (h2_1 : Nat → Int) (h2_2 : Nat → Int) (kn : Int → (Nat → Int) → (Nat → Int) → β) (k0 : (Nat → Int) → (Nat → Int) → β) : β :=
  cond (decide (t9 < t7)) (cond (fits IntKind.i64 (t9 + t2)) (cond (!t7 == 0) (cond (fits IntKind.i64 ((t9 + t2).tmod t7 + t7)) (cond (!t7 == 0) (cond (decide (0 ≤ t9) && decide (t9 < (↑8 : Int))) (cond (t9.toNat.blt 8) (cond (fits IntKind.i64 (h0_1 t9.toNat + t1)) (cond (!t7 == 0) (cond (fits IntKind.i64 ((h0_1 t9.toNat + t1).tmod t7 + t7)) (cond (!t7 == 0) (cond (decide (0 ≤ ((t9 + t2).tmod t7 + t7).tmod t7) && decide (((t9 + t2).tmod t7 + t7).tmod t7 < (↑8 : Int))) (cond ((((t9 + t2).tmod t7 + t7).tmod t7).toNat.blt 8) (cond (decide (0 ≤ t9) && decide (t9 < (↑8 : Int))) (cond (t9.toNat.blt 8) (cond (fits IntKind.i64 (h0_2 t9.toNat + t1)) (cond (!t7 == 0) (cond (fits IntKind.i64 ((h0_2 t9.toNat + t1).tmod t7 + t7)) (cond (!t7 == 0) (cond (decide (0 ≤ ((t9 + t2).tmod t7 + t7).tmod t7) && decide (((t9 + t2).tmod t7 + t7).tmod t7 < (↑8 : Int))) (cond ((((t9 + t2).tmod t7 + t7).tmod t7).toNat.blt 8) (cond (fits IntKind.i64 (t9 + 1)) (kn (t9 + 1) (upd h2_1 (((t9 + t2).tmod t7 + t7).tmod t7).toNat (wrapU IntKind.u8 (((h0_1 t9.toNat + t1).tmod t7 + t7).tmod t7))) (upd h2_2 (((t9 + t2).tmod t7 + t7).tmod t7).toNat (wrapU IntKind.u8 (((h0_2 t9.toNat + t1).tmod t7 + t7).tmod t7)))) (z)) (z)) (z)) (z)) (z)) (z)) (z)) (z)) (z)) (z)) (z)) (z)) (z)) (z)) (z)) (z)) (z)) (z)) (z)) (z)) (z)) (k0 h2_1 h2_2)
def s_l01Rolled_l0 {β : Type} (z : β) (t1 : Int) (t2 : Int) (t7 : Int) (h0_0 : Int) (h0_1 : Nat → Int) (h0_2 : Nat → Int) (h1_0 : Int) (h1_1 : Nat → Int) (h1_2 : Nat → Int) (h2_0 : Int) : Nat → Int → (Nat → Int) → (Nat → Int) → ((Nat → Int) → (Nat → Int) → β) → β
  | 0, _, _, _, _ => z
  | m + 1, t9, h2_1, h2_2, k0 => s_l01Rolled_l0_s z t1 t2 t7 h0_0 h0_1 h0_2 h1_0 h1_1 h1_2 h2_0 t9 h2_1 h2_2 (fun t9 h2_1 h2_2 => s_l01Rolled_l0 z t1 t2 t7 h0_0 h0_1 h0_2 h1_0 h1_1 h1_2 h2_0 m t9 h2_1 h2_2 k0) k0

/-- spec.l01Rolled -/
def s_l01Rolled {β : Type} (z : β) (N : Nat) (g_0 : Int) (g_1 : Nat → Int) (g_2 : Nat → Int) (a1 : Int) (a2 : Int) (k0 : (Nat → Int) → (Nat → Int) → β) : β :=
  s_l01Rolled_l0 z a1 a2 g_0 g_0 g_1 g_2 0 (fun (x : Nat) => 0) (fun (x : Nat) => 0) g_0 N 0 (fun (x : Nat) => 0) (fun (x : Nat) => 0) (fun q8 q9 => k0 q8 q9)

/-- spec.ShiftGrid -/
def s_ShiftGrid {β : Type} (z : β) (N : Nat) (g_0 : Int) (g_1 : Nat → Int) (g_2 : Nat → Int) (v : Int) (u : Int) (k0 : Int → (Nat → Int) → (Nat → Int) → Int → β) : β :=
  s_l01Is z N g_0 g_1 g_2 (fun q8 => cond (!q8) (k0 0 (fun (x : Nat) => 0) (fun (x : Nat) => 0) 1) (s_l01In z N v (-100) 100 (fun q9 => cond (!q9) (k0 0 (fun (x : Nat) => 0) (fun (x : Nat) => 0) 2) (s_l01In z N u (-100) 100 (fun q10 => cond (!q10) (k0 0 (fun (x : Nat) => 0) (fun (x : Nat) => 0) 2) (s_l01Rolled z N g_0 g_1 g_2 v u (fun q11 q12 => k0 g_0 q11 q12 0)))))))

/-- (impl.Grid).shift$1 -/
def i_Grid_shift_1 {β : Type} (z : β) (N : Nat) (i : Int) (r_ : Int) (h0 : Int) (h1_0 : Int) (h1_1 : Nat → Int) (h1_2 : Nat → Int) (h2 : Int) (k0 : Int → Int → β) : β :=
  cond (fits IntKind.i64 (i + h0)) (i_Grid_n z N h1_0 h1_1 h1_2 (cond (!h1_0 == 0) (cond (fits IntKind.i64 (r_ + h2)) (i_Grid_n z N h1_0 h1_1 h1_2 (cond (!h1_0 == 0) (k0 ((i + h0).tmod h1_0) ((r_ + h2).tmod h1_0)) (z))) (z)) (z))) (z)

/-- (impl.Grid).led, loop -/
def i_Grid_led_l0_s3_s {β : Type} (z : β) (N : Nat) (t22 : Int) (h0 : Int) (h1_0 : Int) (h1_1 : Nat → Int) (h1_2 : Nat → Int) (h2 : Int) (h3_0 : Int) (h3_1 : Nat → Int) (h3_2 : Nat → Int) (h4_0 : Int) (h4_1 : Nat → Int) (h4_2 : Nat → Int) (h5_0 : Int) (t23 : Int) (h5_1 : Nat → Int) (h5_2 : Nat → Int) (kn : Int → (Nat → Int) → (Nat → Int) → β) (k0 : (Nat → Int) → (Nat → Int) → β) : β :=
  cond (decide (t23 < t22)) (cond (decide (0 ≤ t23) && decide (t23 < (↑8 : Int))) (cond (t23.toNat.blt 8) (i_Grid_shift_1 z N t23 (h3_1 t23.toNat) h0 h1_0 h1_1 h1_2 h2 (fun q20 q21 => cond (decide (0 ≤ q20) && decide (q20 < (↑8 : Int))) (cond (q20.toNat.blt 8) (cond (decide (0 ≤ t23) && decide (t23 < (↑8 : Int))) (cond (t23.toNat.blt 8) (i_Grid_shift_1 z N t23 (h3_2 t23.toNat) h0 h1_0 h1_1 h1_2 h2 (fun q22 q23 => cond (decide (0 ≤ q22) && decide (q22 < (↑8 : Int))) (cond (q22.toNat.blt 8) (cond (fits IntKind.i64 (t23 + 1)) (kn (t23 + 1) (upd h5_1 q22.toNat (wrapU IntKind.u8 q23)) (upd h5_2 q20.toNat (wrapU IntKind.u8 q21))) (z)) (z)) (z))) (z)) (z)) (z)) (z))) (z)) (z)) (k0 h5_1 h5_2)
def i_Grid_led_l0_s3 {β : Type} (z : β) (N : Nat) (t22 : Int) (h0 : Int) (h1_0 : Int) (h1_1 : Nat → Int) (h1_2 : Nat → Int) (h2 : Int) (h3_0 : Int) (h3_1 : Nat → Int) (h3_2 : Nat → Int) (h4_0 : Int) (h4_1 : Nat → Int) (h4_2 : Nat → Int) (h5_0 : Int) : Nat → Int → (Nat → Int) → (Nat → Int) → ((Nat → Int) → (Nat → Int) → β) → β
  | 0, _, _, _, _ => z
  | m + 1, t23, h5_1, h5_2, k0 => i_Grid_led_l0_s3_s z N t22 h0 h1_0 h1_1 h1_2 h2 h3_0 h3_1 h3_2 h4_0 h4_1 h4_2 h5_0 t23 h5_1 h5_2 (fun t23 h5_1 h5_2 => i_Grid_led_l0_s3 z N t22 h0 h1_0 h1_1 h1_2 h2 h3_0 h3_1 h3_2 h4_0 h4_1 h4_2 h5_0 m t23 h5_1 h5_2 k0) k0

/-- (impl.Grid).led, loop -/
def i_Grid_led_l0_s4_s {β : Type} (z : β) (N : Nat) (t22 : Int) (h0 : Int) (h1_0 : Int) (h1_1 : Nat → Int) (h1_2 : Nat → Int) (h2 : Int) (h3_0 : Int) (h3_1 : Nat → Int) (h3_2 : Nat → Int) (h4_0 : Int) (h4_1 : Nat → Int) (h4_2 : Nat → Int) (h5_0 : Int) (t23 : Int) (h5_1 : Nat → Int) (h5_2 : Nat → Int) (kn : Int → (Nat → Int) → (Nat → Int) → β) (k0 : (Nat → Int) → (Nat → Int) → β) : β :=
  cond (decide (t23 < t22)) (cond (decide (0 ≤ t23) && decide (t23 < (↑8 : Int))) (cond (t23.toNat.blt 8) (i_Grid_shift_1 z N t23 (h3_1 t23.toNat) h0 h1_0 h1_1 h1_2 h2 (fun q20 q21 => cond (decide (0 ≤ q20) && decide (q20 < (↑8 : Int))) (cond (q20.toNat.blt 8) (cond (decide (0 ≤ t23) && decide (t23 < (↑8 : Int))) (cond (t23.toNat.blt 8) (i_Grid_shift_1 z N t23 (h3_2 t23.toNat) h0 h1_0 h1_1 h1_2 h2 (fun q22 q23 => cond (decide (0 ≤ q22) && decide (q22 < (↑8 : Int))) (cond (q22.toNat.blt 8) (cond (fits IntKind.i64 (t23 + 1)) (kn (t23 + 1) (upd h5_1 q20.toNat (wrapU IntKind.u8 q21)) (upd h5_2 q22.toNat (wrapU IntKind.u8 q23))) (z)) (z)) (z))) (z)) (z)) (z)) (z))) (z)) (z)) (k0 h5_1 h5_2)
def i_Grid_led_l0_s4 {β : Type} (z : β) (N : Nat) (t22 : Int) (h0 : Int) (h1_0 : Int) (h1_1 : Nat → Int) (h1_2 : Nat → Int) (h2 : Int) (h3_0 : Int) (h3_1 : Nat → Int) (h3_2 : Nat → Int) (h4_0 : Int) (h4_1 : Nat → Int) (h4_2 : Nat → Int) (h5_0 : Int) : Nat → Int → (Nat → Int) → (Nat → Int) → ((Nat → Int) → (Nat → Int) → β) → β
  | 0, _, _, _, _ => z
  | m + 1, t23, h5_1, h5_2, k0 => i_Grid_led_l0_s4_s z N t22 h0 h1_0 h1_1 h1_2 h2 h3_0 h3_1 h3_2 h4_0 h4_1 h4_2 h5_0 t23 h5_1 h5_2 (fun t23 h5_1 h5_2 => i_Grid_led_l0_s4 z N t22 h0 h1_0 h1_1 h1_2 h2 h3_0 h3_1 h3_2 h4_0 h4_1 h4_2 h5_0 m t23 h5_1 h5_2 k0) k0

/-- (impl.Grid).led -/
def i_Grid_led_s2 {β : Type} (z : β) (N : Nat) (g_0 : Int) (g_1 : Nat → Int) (g_2 : Nat → Int) (exchanged : Bool) (h0 : Int) (h1_0 : Int) (h1_1 : Nat → Int) (h1_2 : Nat → Int) (h2 : Int) (k0 : (Nat → Int) → (Nat → Int) → β) : β :=
  cond (exchanged) (i_Grid_n z N g_0 g_1 g_2 (i_Grid_led_l0_s3 z N g_0 h0 h1_0 h1_1 h1_2 h2 g_0 g_1 g_2 0 (fun (x : Nat) => 0) (fun (x : Nat) => 0) g_0 N 0 (fun (x : Nat) => 0) (fun (x : Nat) => 0) (fun q12 q13 => k0 q12 q13))) (i_Grid_n z N g_0 g_1 g_2 (i_Grid_led_l0_s4 z N g_0 h0 h1_0 h1_1 h1_2 h2 g_0 g_1 g_2 0 (fun (x : Nat) => 0) (fun (x : Nat) => 0) g_0 N 0 (fun (x : Nat) => 0) (fun (x : Nat) => 0) (fun q12 q13 => k0 q12 q13)))

/-- (impl.Grid).shift -/
def i_Grid_shift {β : Type} (z : β) (N : Nat) (g_0 : Int) (g_1 : Nat → Int) (g_2 : Nat → Int) (v : Int) (u : Int) (k0 : (Nat → Int) → (Nat → Int) → β) : β :=
  i_Grid_led_s2 z N g_0 g_1 g_2 false u g_0 g_1 g_2 v (fun q8 q9 => k0 q8 q9)

/-- impl.ShiftGrid -/
def i_ShiftGrid {β : Type} (z : β) (N : Nat) (g_0 : Int) (g_1 : Nat → Int) (g_2 : Nat → Int) (v : Int) (u : Int) (k0 : Int → (Nat → Int) → (Nat → Int) → Int → β) : β :=
  i_IsGrid z N g_0 g_1 g_2 (fun q8 => cond (!q8) (k0 0 (fun (x : Nat) => 0) (fun (x : Nat) => 0) 1) (i_within z N v (-100) 100 (fun q9 => cond (!q9) (k0 0 (fun (x : Nat) => 0) (fun (x : Nat) => 0) 2) (i_within z N u (-100) 100 (fun q10 => cond (!q10) (k0 0 (fun (x : Nat) => 0) (fun (x : Nat) => 0) 2) (cond (fits IntKind.i64 (100 * g_0)) (cond (fits IntKind.i64 (v + 100 * g_0)) (cond (!g_0 == 0) (cond (fits IntKind.i64 (100 * g_0)) (cond (fits IntKind.i64 (u + 100 * g_0)) (cond (!g_0 == 0) (i_Grid_shift z N g_0 g_1 g_2 ((v + 100 * g_0).tmod g_0) ((u + 100 * g_0).tmod g_0) (fun q11 q12 => k0 g_0 q11 q12 0)) (z)) (z)) (z)) (z)) (z)) (z)))))))

/-- laws.FnExactShiftGrid -/
def w_FnExactShiftGrid {β : Type} (z : β) (N : Nat) (aG_0 : Int) (aG_1 : Nat → Int) (aG_2 : Nat → Int) (aV : Int) (aU : Int) (k0 : Bool → β) : β :=
  w_toGrid z N aG_0 aG_1 aG_2 (fun q8 q9 => s_ShiftGrid z N aG_0 q8 q9 aV aU (fun q10 q11 q12 q13 => w_toGrid z N aG_0 aG_1 aG_2 (fun q14 q15 => i_ShiftGrid z N aG_0 q14 q15 aV aU (fun q16 q17 q18 q19 => w_eqGrid z N q16 q17 q18 q10 q11 q12 (fun q20 => cond (!q20) (k0 false) (cond (q19 != q13) (k0 false) (k0 true)))))))
end Go.AM
