/- A part of a proof about the given program: an abstract machine, what the given functions come to, and plain laws. -/
import Derived.Test.YtlpfpjbmikpheaaDIsMosaic
import Derived.Test.YtlpfpjbmikpheaaDLowerState
set_option maxRecDepth 100000
namespace Go.AM
/-- spec.l07Upper, loop -/
def s_l07Upper_l0_s {β : Type} (z : β) (h0_0 : Int) (h0_1 : Nat → Int) (h0_2 : Nat → Int) (h1 : Nat → Int) (i : Int) (h2 : Nat → Int) (kn : Int → (Nat → Int) → β) (k0 : (Nat → Int) → β) : β :=
  cond (decide (i < h0_0)) (cond (fits IntKind.i64 (i + 1)) (cond (!h0_0 == 0) (cond (decide (0 ≤ i) && decide (i < (↑8 : Int))) (cond (i.toNat.blt 8) (cond (fits IntKind.i64 (h0_1 i.toNat + 1)) (cond (!h0_0 == 0) (cond (decide (0 ≤ (i + 1).tmod h0_0) && decide ((i + 1).tmod h0_0 < (↑8 : Int))) (cond (((i + 1).tmod h0_0).toNat.blt 8) (cond (fits IntKind.i64 (i + 1)) (kn (i + 1) (upd h2 ((i + 1).tmod h0_0).toNat (wrapU IntKind.u8 ((h0_1 i.toNat + 1).tmod h0_0)))) (z)) (z)) (z)) (z)) (z)) (z)) (z)) (z)) (z)) (k0 h2)
def s_l07Upper_l0 {β : Type} (z : β) (h0_0 : Int) (h0_1 : Nat → Int) (h0_2 : Nat → Int) (h1 : Nat → Int) : Nat → Int → (Nat → Int) → ((Nat → Int) → β) → β
  | 0, _, _, _ => z
  | m + 1, i, h2, k0 => s_l07Upper_l0_s z h0_0 h0_1 h0_2 h1 i h2 (fun i h2 => s_l07Upper_l0 z h0_0 h0_1 h0_2 h1 m i h2 k0) k0

/-- spec.l07Upper -/
def s_l07Upper {β : Type} (z : β) (N : Nat) (g_0 : Int) (g_1 : Nat → Int) (g_2 : Nat → Int) (k0 : (Nat → Int) → β) : β :=
  s_l07Upper_l0 z g_0 g_1 g_2 (fun (x : Nat) => 0) N 0 (fun (x : Nat) => 0) (fun q6 => k0 q6)

/-- spec.UpperState -/
def s_UpperState {β : Type} (z : β) (N : Nat) (g_0 : Int) (g_1 : Nat → Int) (g_2 : Nat → Int) (k0 : (Nat → Int) → Int → β) : β :=
  s_l01Is z N g_0 g_1 g_2 (fun q6 => cond (!q6) (k0 (fun (x : Nat) => 0) 1) (s_l07Upper z N g_0 g_1 g_2 (fun q7 => k0 q7 0)))

/-- impl.UpperState$1, loop -/
def i_UpperState_1_l0_s {β : Type} (z : β) (n : Int) (t9 : Int) (h0_0 : Int) (h0_1 : Nat → Int) (h0_2 : Nat → Int) (h1 : Nat → Int) (t10 : Int) (h2 : Nat → Int) (kn : Int → (Nat → Int) → β) (k0 : (Nat → Int) → β) : β :=
  cond (decide (t10 < t9)) (cond (fits IntKind.i64 (t10 + 1)) (cond (!n == 0) (cond (decide (0 ≤ t10) && decide (t10 < (↑8 : Int))) (cond (t10.toNat.blt 8) (cond (fits IntKind.i64 (h0_1 t10.toNat + 1)) (cond (!n == 0) (cond (decide (0 ≤ (t10 + 1).tmod n) && decide ((t10 + 1).tmod n < (↑8 : Int))) (cond (((t10 + 1).tmod n).toNat.blt 8) (cond (fits IntKind.i64 (t10 + 1)) (kn (t10 + 1) (upd h2 ((t10 + 1).tmod n).toNat (wrapU IntKind.u8 ((h0_1 t10.toNat + 1).tmod n)))) (z)) (z)) (z)) (z)) (z)) (z)) (z)) (z)) (z)) (k0 h2)
def i_UpperState_1_l0 {β : Type} (z : β) (n : Int) (t9 : Int) (h0_0 : Int) (h0_1 : Nat → Int) (h0_2 : Nat → Int) (h1 : Nat → Int) : Nat → Int → (Nat → Int) → ((Nat → Int) → β) → β
  | 0, _, _, _ => z
  | m + 1, t10, h2, k0 => i_UpperState_1_l0_s z n t9 h0_0 h0_1 h0_2 h1 t10 h2 (fun t10 h2 => i_UpperState_1_l0 z n t9 h0_0 h0_1 h0_2 h1 m t10 h2 k0) k0

/-- impl.UpperState$1 -/
def i_UpperState_1 {β : Type} (z : β) (N : Nat) (g_0 : Int) (g_1 : Nat → Int) (g_2 : Nat → Int) (k0 : (Nat → Int) → β) : β :=
  i_Grid_n z N g_0 g_1 g_2 (i_UpperState_1_l0 z g_0 g_0 g_0 g_1 g_2 (fun (x : Nat) => 0) N 0 (fun (x : Nat) => 0) (fun q6 => k0 q6))

/-- impl.whole[impl.State] -/
def i_whole_i_State_s2 {β : Type} (z : β) (N : Nat) (g_0 : Int) (g_1 : Nat → Int) (g_2 : Nat → Int) (k0 : (Nat → Int) → Int → β) : β :=
  i_IsGrid z N g_0 g_1 g_2 (fun q6 => cond (!q6) (k0 (fun (x : Nat) => 0) 1) (i_UpperState_1 z N g_0 g_1 g_2 (fun q7 => k0 q7 0)))

/-- impl.UpperState -/
def i_UpperState {β : Type} (z : β) (N : Nat) (g_0 : Int) (g_1 : Nat → Int) (g_2 : Nat → Int) (k0 : (Nat → Int) → Int → β) : β :=
  i_whole_i_State_s2 z N g_0 g_1 g_2 (fun q6 q7 => k0 q6 q7)

/-- laws.FnExactUpperState -/
def w_FnExactUpperState {β : Type} (z : β) (N : Nat) (aG_0 : Int) (aG_1 : Nat → Int) (aG_2 : Nat → Int) (k0 : Bool → β) : β :=
  w_toGrid z N aG_0 aG_1 aG_2 (fun q6 q7 => s_UpperState z N aG_0 q6 q7 (fun q8 q9 => w_toGrid z N aG_0 aG_1 aG_2 (fun q10 q11 => i_UpperState z N aG_0 q10 q11 (fun q12 q13 => w_eqState z N q12 q8 (fun q14 => cond (!q14) (k0 false) (cond (q13 != q9) (k0 false) (k0 true)))))))
end Go.AM
