/- A part of a proof about the given program: an abstract machine, what the given functions come to, and plain laws. -/
import Derived.Test.YtijijnfmcmeioaaDLowerState
import Derived.Test.YtijijnfmcmeioaaDIsMosaic
import Derived.Test.YtijijnfmcmeioaaDExchangeRows
import Derived.Test.YtijijnfmcmeioaaDCornersOf
set_option maxRecDepth 100000
namespace Go.AM
/-- spec.l01Components, loop -/
def s_l01Components_l0_s {β : Type} (z : β) (h0_0 : Int) (h0_1 : Nat → Int) (h0_2 : Nat → Int) (h1 : Nat → Int) (i : Int) (h2 : Nat → Int) (kn : Int → (Nat → Int) → β) (k0 : (Nat → Int) → β) : β :=
  cond (decide (i < 8)) (cond (decide (0 ≤ i) && decide (i < (↑8 : Int))) (cond (i.toNat.blt 8) (cond (fits IntKind.i64 (i + 1)) (kn (i + 1) (upd h2 i.toNat (-1))) (z)) (z)) (z)) (k0 h2)
def s_l01Components_l0 {β : Type} (z : β) (h0_0 : Int) (h0_1 : Nat → Int) (h0_2 : Nat → Int) (h1 : Nat → Int) : Nat → Int → (Nat → Int) → ((Nat → Int) → β) → β
  | 0, _, _, _ => z
  | m + 1, i, h2, k0 => s_l01Components_l0_s z h0_0 h0_1 h0_2 h1 i h2 (fun i h2 => s_l01Components_l0 z h0_0 h0_1 h0_2 h1 m i h2 k0) k0

/-- spec.l01Follow -/
def s_l01Follow {β : Type} (z : β) (N : Nat) (g_0 : Int) (g_1 : Nat → Int) (g_2 : Nat → Int) (i : Int) (k0 : Int → β) : β :=
  cond (decide (0 ≤ i) && decide (i < (↑8 : Int))) (cond (i.toNat.blt 8) (s_l01Row z N g_1 g_0 (g_2 i.toNat) (fun q7 => k0 q7)) (z)) (z)

/-- spec.l01Components, loop -/
def s_l01Components_l2_s {β : Type} (z : β) (N : Nat) (count : Int) (i : Int) (h0_0 : Int) (h0_1 : Nat → Int) (h0_2 : Nat → Int) (h1 : Nat → Int) (k : Int) (h2 : Nat → Int) (kn : Int → (Nat → Int) → β) (k0 : (Nat → Int) → β) : β :=
  cond (decide (0 ≤ k) && decide (k < (↑8 : Int))) (cond (k.toNat.blt 8) (cond (decide (h2 k.toNat < 0)) (cond (decide (0 ≤ k) && decide (k < (↑8 : Int))) (cond (k.toNat.blt 8) (s_l01Follow z N h0_0 h0_1 h0_2 k (fun q12 => kn q12 (upd h2 k.toNat count))) (z)) (z)) (k0 h2)) (z)) (z)
def s_l01Components_l2 {β : Type} (z : β) (N : Nat) (count : Int) (i : Int) (h0_0 : Int) (h0_1 : Nat → Int) (h0_2 : Nat → Int) (h1 : Nat → Int) : Nat → Int → (Nat → Int) → ((Nat → Int) → β) → β
  | 0, _, _, _ => z
  | m + 1, k, h2, k0 => s_l01Components_l2_s z N count i h0_0 h0_1 h0_2 h1 k h2 (fun k h2 => s_l01Components_l2 z N count i h0_0 h0_1 h0_2 h1 m k h2 k0) k0

/-- spec.l01Components, loop -/
def s_l01Components_l1_s {β : Type} (z : β) (N : Nat) (h0_0 : Int) (h0_1 : Nat → Int) (h0_2 : Nat → Int) (h1 : Nat → Int) (count : Int) (i : Int) (h2 : Nat → Int) (kn : Int → Int → (Nat → Int) → β) (k0 : Int → (Nat → Int) → β) : β :=
  cond (decide (i < h0_0)) (cond (decide (0 ≤ i) && decide (i < (↑8 : Int))) (cond (i.toNat.blt 8) (cond (decide (0 ≤ h2 i.toNat)) (cond (fits IntKind.i64 (i + 1)) (kn count (i + 1) h2) (z)) (s_l01Components_l2 z N count i h0_0 h0_1 h0_2 h1 N i h2 (fun q11 => cond (fits IntKind.i64 (count + 1)) (cond (fits IntKind.i64 (i + 1)) (kn (count + 1) (i + 1) q11) (z)) (z)))) (z)) (z)) (k0 count h2)
def s_l01Components_l1 {β : Type} (z : β) (N : Nat) (h0_0 : Int) (h0_1 : Nat → Int) (h0_2 : Nat → Int) (h1 : Nat → Int) : Nat → Int → Int → (Nat → Int) → (Int → (Nat → Int) → β) → β
  | 0, _, _, _, _ => z
  | m + 1, count, i, h2, k0 => s_l01Components_l1_s z N h0_0 h0_1 h0_2 h1 count i h2 (fun count i h2 => s_l01Components_l1 z N h0_0 h0_1 h0_2 h1 m count i h2 k0) k0

/-- spec.l01Components -/
def s_l01Components {β : Type} (z : β) (N : Nat) (g_0 : Int) (g_1 : Nat → Int) (g_2 : Nat → Int) (k0 : (Nat → Int) → Int → β) : β :=
  s_l01Components_l0 z g_0 g_1 g_2 (fun (x : Nat) => 0) N 0 (fun (x : Nat) => 0) (fun q6 => s_l01Components_l1 z N g_0 g_1 g_2 (fun (x : Nat) => 0) N 0 0 q6 (fun q7 q8 => k0 q8 q7))

/-- spec.l07Cusps, loop -/
def s_l07Cusps_l0_s {β : Type} (z : β) (t1 : Int) (t8_n : Nat) (t8_l : Nat) (t8_c : Nat) (h0_0 : Int) (h0_1 : Nat → Int) (h0_2 : Nat → Int) (h1 : Nat → Int) (h2 : List Int) (t9 : Int) (t10 : Int) (t11 : Int) (kn : Int → Int → Int → β) (k0 : Int → Int → β) : β :=
  cond (t8_l.ble 9223372036854775807) (cond (decide (t11 < (↑t8_l : Int))) (cond (decide (0 ≤ t1)) (cond (t8_n.beq h2.length && (decide (0 ≤ t11) && decide (t11 < (↑t8_l : Int)))) (cond (t8_n.beq h2.length) (cond (t8_n.beq h2.length && ((t11.toNat * 4 % 4).beq 0 && (t11.toNat * 4 + 4).ble h2.length)) (cond (decide (0 ≤ h2[addO (t11.toNat * 4) 0]?.getD 0) && decide (h2[addO (t11.toNat * 4) 0]?.getD 0 < (↑8 : Int))) (cond ((h2[addO (t11.toNat * 4) 0]?.getD 0).toNat.blt 8) (cond (h1 (h2[addO (t11.toNat * 4) 0]?.getD 0).toNat != t1) (cond (fits IntKind.i64 (t11 + 1)) (kn t9 t10 (t11 + 1)) (z)) (cond (t8_n.beq h2.length && (decide (0 ≤ t11) && decide (t11 < (↑t8_l : Int)))) (cond (t8_n.beq h2.length) (cond (t8_n.beq h2.length && ((t11.toNat * 4 % 4).beq 0 && (t11.toNat * 4 + 4).ble h2.length)) (cond (h2[addO (t11.toNat * 4) 2]?.getD 0 == 1) (cond (fits IntKind.i64 (t11 + 1)) (kn t9 t10 (t11 + 1)) (z)) (cond (t8_n.beq h2.length && (decide (0 ≤ t11) && decide (t11 < (↑t8_l : Int)))) (cond (t8_n.beq h2.length) (cond (t8_n.beq h2.length && ((t11.toNat * 4 % 4).beq 0 && (t11.toNat * 4 + 4).ble h2.length)) (cond (h2[addO (t11.toNat * 4) 2]?.getD 0 == 2) (cond (fits IntKind.i64 (t11 + 1)) (kn t9 t10 (t11 + 1)) (z)) (cond (t8_n.beq h2.length && (decide (0 ≤ t11) && decide (t11 < (↑t8_l : Int)))) (cond (t8_n.beq h2.length) (cond (t8_n.beq h2.length && ((t11.toNat * 4 % 4).beq 0 && (t11.toNat * 4 + 4).ble h2.length)) (cond (t8_n.beq h2.length && (decide (0 ≤ t11) && decide (t11 < (↑t8_l : Int)))) (cond (t8_n.beq h2.length) (cond (t8_n.beq h2.length && ((t11.toNat * 4 % 4).beq 0 && (t11.toNat * 4 + 4).ble h2.length)) (cond ((h2[addO (t11.toNat * 4) 3]?.getD 0 != 0) == (h2[addO (t11.toNat * 4) 2]?.getD 0 == 3)) (cond (fits IntKind.i64 (t9 + 1)) (cond (fits IntKind.i64 (t11 + 1)) (kn (t9 + 1) t10 (t11 + 1)) (z)) (z)) (cond (fits IntKind.i64 (t10 + 1)) (cond (fits IntKind.i64 (t11 + 1)) (kn t9 (t10 + 1) (t11 + 1)) (z)) (z))) (z)) (z)) (z)) (z)) (z)) (z))) (z)) (z)) (z))) (z)) (z)) (z))) (z)) (z)) (z)) (z)) (z)) (cond (t8_n.beq h2.length && (decide (0 ≤ t11) && decide (t11 < (↑t8_l : Int)))) (cond (t8_n.beq h2.length) (cond (t8_n.beq h2.length && ((t11.toNat * 4 % 4).beq 0 && (t11.toNat * 4 + 4).ble h2.length)) (cond (h2[addO (t11.toNat * 4) 2]?.getD 0 == 1) (cond (fits IntKind.i64 (t11 + 1)) (kn t9 t10 (t11 + 1)) (z)) (cond (t8_n.beq h2.length && (decide (0 ≤ t11) && decide (t11 < (↑t8_l : Int)))) (cond (t8_n.beq h2.length) (cond (t8_n.beq h2.length && ((t11.toNat * 4 % 4).beq 0 && (t11.toNat * 4 + 4).ble h2.length)) (cond (h2[addO (t11.toNat * 4) 2]?.getD 0 == 2) (cond (fits IntKind.i64 (t11 + 1)) (kn t9 t10 (t11 + 1)) (z)) (cond (t8_n.beq h2.length && (decide (0 ≤ t11) && decide (t11 < (↑t8_l : Int)))) (cond (t8_n.beq h2.length) (cond (t8_n.beq h2.length && ((t11.toNat * 4 % 4).beq 0 && (t11.toNat * 4 + 4).ble h2.length)) (cond (t8_n.beq h2.length && (decide (0 ≤ t11) && decide (t11 < (↑t8_l : Int)))) (cond (t8_n.beq h2.length) (cond (t8_n.beq h2.length && ((t11.toNat * 4 % 4).beq 0 && (t11.toNat * 4 + 4).ble h2.length)) (cond ((h2[addO (t11.toNat * 4) 3]?.getD 0 != 0) == (h2[addO (t11.toNat * 4) 2]?.getD 0 == 3)) (cond (fits IntKind.i64 (t9 + 1)) (cond (fits IntKind.i64 (t11 + 1)) (kn (t9 + 1) t10 (t11 + 1)) (z)) (z)) (cond (fits IntKind.i64 (t10 + 1)) (cond (fits IntKind.i64 (t11 + 1)) (kn t9 (t10 + 1) (t11 + 1)) (z)) (z))) (z)) (z)) (z)) (z)) (z)) (z))) (z)) (z)) (z))) (z)) (z)) (z))) (k0 t9 t10)) (z)
def s_l07Cusps_l0 {β : Type} (z : β) (t1 : Int) (t8_n : Nat) (t8_l : Nat) (t8_c : Nat) (h0_0 : Int) (h0_1 : Nat → Int) (h0_2 : Nat → Int) (h1 : Nat → Int) (h2 : List Int) : Nat → Int → Int → Int → (Int → Int → β) → β
  | 0, _, _, _, _ => z
  | m + 1, t9, t10, t11, k0 => s_l07Cusps_l0_s z t1 t8_n t8_l t8_c h0_0 h0_1 h0_2 h1 h2 t9 t10 t11 (fun t9 t10 t11 => s_l07Cusps_l0 z t1 t8_n t8_l t8_c h0_0 h0_1 h0_2 h1 h2 m t9 t10 t11 k0) k0

/-- spec.l07Cusps -/
def s_l07Cusps {β : Type} (z : β) (N : Nat) (g_0 : Int) (g_1 : Nat → Int) (g_2 : Nat → Int) (a1 : Int) (k0 : Int → Int → β) : β :=
  s_l01Components z N g_0 g_1 g_2 (fun q7 q8 => s_l07Corners z N g_0 g_1 g_2 (fun q9 q10 q11 q12 => s_l07Cusps_l0 z a1 q9 q10 q11 g_0 g_1 g_2 q7 q12 N 0 0 0 (fun q13 q14 => k0 q13 q14)))

/-- spec.CountCusps -/
def s_CountCusps {β : Type} (z : β) (N : Nat) (g_0 : Int) (g_1 : Nat → Int) (g_2 : Nat → Int) (k0 : Int → Int → β) : β :=
  s_l01Is z N g_0 g_1 g_2 (fun q6 => cond (!q6) (k0 0 1) (s_l07Cusps z N g_0 g_1 g_2 (-1) (fun q7 q8 => cond (fits IntKind.i64 (q7 + q8)) (k0 (q7 + q8) 0) (z))))

/-- (impl.Corner).isCusp -/
def i_Corner_isCusp {β : Type} (z : β) (N : Nat) (c_0 : Int) (c_1 : Int) (c_2 : Int) (c_3 : Bool) (k0 : Bool → β) : β :=
  cond (c_2 == 0) (k0 true) (k0 (c_2 == 3))

/-- (impl.Corner).letter -/
def i_Corner_letter {β : Type} (z : β) (N : Nat) (c_0 : Int) (c_1 : Int) (c_2 : Int) (c_3 : Bool) (k0 : (List UInt8) → β) : β :=
  i_Corner_isCusp z N c_0 c_1 c_2 c_3 (fun q7 => cond (!q7) (k0 ([])) (cond (c_3 == (c_2 == 0)) (k0 ([117])) (k0 ([100]))))

/-- (*impl.front).add -/
def i_front_add {β : Type} (z : β) (N : Nat) (c_0 : Int) (c_1 : Int) (c_2 : Int) (c_3 : Bool) (h0 : Nat → Int) (k0 : (Nat → Int) → β) : β :=
  i_Corner_isCusp z N c_0 c_1 c_2 c_3 (fun q8 => cond (q8) (cond (fits IntKind.i64 (h0 0 + 1)) (i_Corner_letter z N c_0 c_1 c_2 c_3 (fun q9 => cond (q9 == [117]) (cond (fits IntKind.i64 (upd h0 0 (h0 0 + 1) 1 + 1)) (k0 (upd (upd h0 0 (h0 0 + 1)) 1 (upd h0 0 (h0 0 + 1) 1 + 1))) (z)) (cond (q9 == [100]) (cond (fits IntKind.i64 (upd h0 0 (h0 0 + 1) 2 + 1)) (k0 (upd (upd h0 0 (h0 0 + 1)) 2 (upd h0 0 (h0 0 + 1) 2 + 1))) (z)) (k0 (upd h0 0 (h0 0 + 1)))))) (z)) (i_Corner_letter z N c_0 c_1 c_2 c_3 (fun q9 => cond (q9 == [117]) (cond (fits IntKind.i64 (h0 1 + 1)) (k0 (upd h0 1 (h0 1 + 1))) (z)) (cond (q9 == [100]) (cond (fits IntKind.i64 (h0 2 + 1)) (k0 (upd h0 2 (h0 2 + 1))) (z)) (k0 h0)))))

/-- (impl.Grid).front, loop -/
def i_Grid_front_l0_s {β : Type} (z : β) (N : Nat) (t8_n : Nat) (t8_l : Nat) (t8_c : Nat) (t9 : Int) (h0_0 : Int) (h0_1 : Nat → Int) (h0_2 : Nat → Int) (h1 : Nat → Int) (h3 : List Int) (t10 : Int) (h2 : Nat → Int) (kn : Int → (Nat → Int) → β) (k0 : (Nat → Int) → β) : β :=
  cond (decide (t10 < t9)) (cond (t8_n.beq h3.length && (decide (0 ≤ t10) && decide (t10 < (↑t8_l : Int)))) (cond (t8_n.beq h3.length && ((t10.toNat * 4 % 4).beq 0 && (t10.toNat * 4 + 4).ble h3.length)) (i_front_add z N (h3[addO (t10.toNat * 4) 0]?.getD 0) (h3[addO (t10.toNat * 4) 1]?.getD 0) (h3[addO (t10.toNat * 4) 2]?.getD 0) (h3[addO (t10.toNat * 4) 3]?.getD 0 != 0) h2 (fun q15 => cond (fits IntKind.i64 (t10 + 1)) (kn (t10 + 1) q15) (z))) (z)) (z)) (k0 h2)
def i_Grid_front_l0 {β : Type} (z : β) (N : Nat) (t8_n : Nat) (t8_l : Nat) (t8_c : Nat) (t9 : Int) (h0_0 : Int) (h0_1 : Nat → Int) (h0_2 : Nat → Int) (h1 : Nat → Int) (h3 : List Int) : Nat → Int → (Nat → Int) → ((Nat → Int) → β) → β
  | 0, _, _, _ => z
  | m + 1, t10, h2, k0 => i_Grid_front_l0_s z N t8_n t8_l t8_c t9 h0_0 h0_1 h0_2 h1 h3 t10 h2 (fun t10 h2 => i_Grid_front_l0 z N t8_n t8_l t8_c t9 h0_0 h0_1 h0_2 h1 h3 m t10 h2 k0) k0

/-- (impl.Grid).front -/
def i_Grid_front {β : Type} (z : β) (N : Nat) (g_0 : Int) (g_1 : Nat → Int) (g_2 : Nat → Int) (k0 : (Nat → Int) → β) : β :=
  i_Grid_corners z N g_0 g_1 g_2 (fun q6 q7 q8 q9 => cond (q7.ble 9223372036854775807) (i_Grid_front_l0 z N q6 q7 q8 (↑q7 : Int) g_0 g_1 g_2 (fun (x : Nat) => 0) q9 N 0 (fun (x : Nat) => 0) (fun q10 => k0 q10)) (z))

/-- impl.CountCusps$1 -/
def i_CountCusps_1 {β : Type} (z : β) (N : Nat) (g_0 : Int) (g_1 : Nat → Int) (g_2 : Nat → Int) (k0 : Int → β) : β :=
  i_Grid_front z N g_0 g_1 g_2 (fun q6 => k0 (q6 0))

/-- impl.whole[int64] -/
def i_whole_int64_v1 {β : Type} (z : β) (N : Nat) (g_0 : Int) (g_1 : Nat → Int) (g_2 : Nat → Int) (k0 : Int → Int → β) : β :=
  i_IsGrid z N g_0 g_1 g_2 (fun q6 => cond (!q6) (k0 0 1) (i_CountCusps_1 z N g_0 g_1 g_2 (fun q7 => k0 q7 0)))

/-- impl.CountCusps -/
def i_CountCusps {β : Type} (z : β) (N : Nat) (g_0 : Int) (g_1 : Nat → Int) (g_2 : Nat → Int) (k0 : Int → Int → β) : β :=
  i_whole_int64_v1 z N g_0 g_1 g_2 (fun q6 q7 => k0 q6 q7)

/-- laws.FnExactCountCusps -/
def w_FnExactCountCusps {β : Type} (z : β) (N : Nat) (aG_0 : Int) (aG_1 : Nat → Int) (aG_2 : Nat → Int) (k0 : Bool → β) : β :=
  w_toGrid z N aG_0 aG_1 aG_2 (fun q6 q7 => s_CountCusps z N aG_0 q6 q7 (fun q8 q9 => w_toGrid z N aG_0 aG_1 aG_2 (fun q10 q11 => i_CountCusps z N aG_0 q10 q11 (fun q12 q13 => cond (q12 != q8) (k0 false) (cond (q13 != q9) (k0 false) (k0 true))))))
end Go.AM
