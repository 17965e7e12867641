/- A part of a proof about the given program: an abstract machine, what the given functions come to, and plain laws. -/
import Derived.Test.YtlpfpjbmikpheaaDLowerState
import Derived.Test.YtlpfpjbmikpheaaDIsMosaic
import Derived.Test.YtlpfpjbmikpheaaDCountTiles
set_option maxRecDepth 100000
namespace Go.AM
/-- spec.l08Direction -/
def s_l08Direction {β : Type} (z : β) (N : Nat) (g_0 : Int) (g_1 : Nat → Int) (g_2 : Nat → Int) (i : Int) (k0 : Int → β) : β :=
  cond (decide (0 ≤ i) && decide (i < (↑8 : Int))) (cond (i.toNat.blt 8) (cond (decide (0 ≤ i) && decide (i < (↑8 : Int))) (cond (i.toNat.blt 8) (cond (decide (g_1 i.toNat < g_2 i.toNat)) (k0 1) (k0 (-1))) (z)) (z)) (z)) (z)

/-- spec.DirectionsOf, loop -/
def s_DirectionsOf_l0_s {β : Type} (z : β) (N : Nat) (h0_0 : Int) (h0_1 : Nat → Int) (h0_2 : Nat → Int) (out_n : Nat) (out_l : Nat) (out_c : Nat) (i : Int) (h1 : List Int) (kn : Nat → Nat → Nat → Int → (List Int) → β) (k0 : Nat → Nat → Nat → (List Int) → β) : β :=
  cond (decide (i < h0_0)) (s_l08Direction z N h0_0 h0_1 h0_2 i (fun q12 => cond (out_n.beq h1.length && true) (cond ((out_l + 1).ble 1099511627776 && ((out_l + 1) * 8).ble 1099511627776) (cond ((out_l + 1).ble out_c) (cond (out_n.beq h1.length && (0 + out_l + 1).ble h1.length) (cond (fits IntKind.i64 (i + 1)) (kn out_n (out_l + 1) out_c (i + 1) (List.take (0 + out_l) h1 ++ (fromTo ((List.replicate 1 0).set 0 q12) 0 1 ++ List.drop (0 + out_l + 1) h1))) (z)) (z)) (cond (out_l.beq h1.length) (cond (fits IntKind.i64 (i + 1)) (kn ((h1 ++ fromTo ((List.replicate 1 0).set 0 q12) 0 1).length) (out_l + 1) (out_l + 1) (i + 1) (h1 ++ fromTo ((List.replicate 1 0).set 0 q12) 0 1)) (z)) (z))) (z)) (z))) (k0 out_n out_l out_c h1)
def s_DirectionsOf_l0 {β : Type} (z : β) (N : Nat) (h0_0 : Int) (h0_1 : Nat → Int) (h0_2 : Nat → Int) : Nat → Nat → Nat → Nat → Int → (List Int) → (Nat → Nat → Nat → (List Int) → β) → β
  | 0, _, _, _, _, _, _ => z
  | m + 1, out_n, out_l, out_c, i, h1, k0 => s_DirectionsOf_l0_s z N h0_0 h0_1 h0_2 out_n out_l out_c i h1 (fun out_n out_l out_c i h1 => s_DirectionsOf_l0 z N h0_0 h0_1 h0_2 m out_n out_l out_c i h1 k0) k0

/-- spec.DirectionsOf -/
def s_DirectionsOf {β : Type} (z : β) (N : Nat) (g_0 : Int) (g_1 : Nat → Int) (g_2 : Nat → Int) (k0 : Int → β) (k1 : Nat → Nat → Nat → Int → (List Int) → β) : β :=
  s_l01Is z N g_0 g_1 g_2 (fun q6 => cond (!q6) (k0 1) (s_DirectionsOf_l0 z N g_0 g_1 g_2 N 0 0 0 0 (List.replicate 0 0) (fun q7 q8 q9 q10 => k1 q7 q8 q9 0 q10)))

/-- (impl.Grid).directions, loop -/
def i_Grid_directions_l0_s {β : Type} (z : β) (t7 : Int) (h0_0 : Int) (h0_1 : Nat → Int) (h0_2 : Nat → Int) (out_n : Nat) (out_l : Nat) (out_c : Nat) (t8 : Int) (h1 : List Int) (kn : Nat → Nat → Nat → Int → (List Int) → β) (k0 : Nat → Nat → Nat → (List Int) → β) : β :=
  cond (decide (t8 < t7)) (cond (decide (0 ≤ t8) && decide (t8 < (↑8 : Int))) (cond (t8.toNat.blt 8) (cond (decide (0 ≤ t8) && decide (t8 < (↑8 : Int))) (cond (t8.toNat.blt 8) (cond (decide (h0_1 t8.toNat < h0_2 t8.toNat)) (cond (out_n.beq h1.length && true) (cond ((out_l + 1).ble 1099511627776 && ((out_l + 1) * 8).ble 1099511627776) (cond ((out_l + 1).ble out_c) (cond (out_n.beq h1.length && (0 + out_l + 1).ble h1.length) (cond (fits IntKind.i64 (t8 + 1)) (kn out_n (out_l + 1) out_c (t8 + 1) (List.take (0 + out_l) h1 ++ (fromTo ((List.replicate 1 0).set 0 1) 0 1 ++ List.drop (0 + out_l + 1) h1))) (z)) (z)) (cond (out_l.beq h1.length) (cond (fits IntKind.i64 (t8 + 1)) (kn ((h1 ++ fromTo ((List.replicate 1 0).set 0 1) 0 1).length) (out_l + 1) (out_l + 1) (t8 + 1) (h1 ++ fromTo ((List.replicate 1 0).set 0 1) 0 1)) (z)) (z))) (z)) (z)) (cond (out_n.beq h1.length && true) (cond ((out_l + 1).ble 1099511627776 && ((out_l + 1) * 8).ble 1099511627776) (cond ((out_l + 1).ble out_c) (cond (out_n.beq h1.length && (0 + out_l + 1).ble h1.length) (cond (fits IntKind.i64 (t8 + 1)) (kn out_n (out_l + 1) out_c (t8 + 1) (List.take (0 + out_l) h1 ++ (fromTo ((List.replicate 1 0).set 0 (-1)) 0 1 ++ List.drop (0 + out_l + 1) h1))) (z)) (z)) (cond (out_l.beq h1.length) (cond (fits IntKind.i64 (t8 + 1)) (kn ((h1 ++ fromTo ((List.replicate 1 0).set 0 (-1)) 0 1).length) (out_l + 1) (out_l + 1) (t8 + 1) (h1 ++ fromTo ((List.replicate 1 0).set 0 (-1)) 0 1)) (z)) (z))) (z)) (z))) (z)) (z)) (z)) (z)) (k0 out_n out_l out_c h1)
def i_Grid_directions_l0 {β : Type} (z : β) (t7 : Int) (h0_0 : Int) (h0_1 : Nat → Int) (h0_2 : Nat → Int) : Nat → Nat → Nat → Nat → Int → (List Int) → (Nat → Nat → Nat → (List Int) → β) → β
  | 0, _, _, _, _, _, _ => z
  | m + 1, out_n, out_l, out_c, t8, h1, k0 => i_Grid_directions_l0_s z t7 h0_0 h0_1 h0_2 out_n out_l out_c t8 h1 (fun out_n out_l out_c t8 h1 => i_Grid_directions_l0 z t7 h0_0 h0_1 h0_2 m out_n out_l out_c t8 h1 k0) k0

/-- (impl.Grid).directions -/
def i_Grid_directions {β : Type} (z : β) (N : Nat) (g_0 : Int) (g_1 : Nat → Int) (g_2 : Nat → Int) (k0 : Nat → Nat → Nat → (List Int) → β) : β :=
  i_Grid_n z N g_0 g_1 g_2 (i_Grid_directions_l0 z g_0 g_0 g_1 g_2 N 0 0 0 0 (List.replicate 0 0) (fun q6 q7 q8 q9 => k0 q6 q7 q8 q9))

/-- impl.whole[[]int64] -/
def i_whole_int64 {β : Type} (z : β) (N : Nat) (g_0 : Int) (g_1 : Nat → Int) (g_2 : Nat → Int) (k0 : Int → β) (k1 : Nat → Nat → Nat → Int → (List Int) → β) : β :=
  i_IsGrid z N g_0 g_1 g_2 (fun q6 => cond (!q6) (k0 1) (i_Grid_directions z N g_0 g_1 g_2 (fun q7 q8 q9 q10 => k1 q7 q8 q9 0 q10)))

/-- impl.DirectionsOf -/
def i_DirectionsOf {β : Type} (z : β) (N : Nat) (g_0 : Int) (g_1 : Nat → Int) (g_2 : Nat → Int) (k0 : Int → β) (k1 : Nat → Nat → Nat → Int → (List Int) → β) : β :=
  i_whole_int64 z N g_0 g_1 g_2 (fun q6 => k0 q6) (fun q6 q7 q8 q9 q10 => k1 q6 q7 q8 q9 q10)

/-- laws.eqInt64S, loop -/
def w_eqInt64S_l0_s3_s {β : Type} (z : β) (a_n : Nat) (a_l : Nat) (a_c : Nat) (i : Int) (h0 : List Int)  (kn : β) (k0 : β) : β :=
  cond (a_l.ble 1099511627776) (cond (decide (i < (↑a_l : Int))) (cond (a_n.beq h0.length && (decide (0 ≤ i) && decide (i < (↑a_l : Int)))) (cond (a_n.beq h0.length && i.toNat.blt h0.length) (z) (z)) (z)) (k0)) (z)
def w_eqInt64S_l0_s3 {β : Type} (z : β) (a_n : Nat) (a_l : Nat) (a_c : Nat) (i : Int) (h0 : List Int) : Nat → β → β
  | 0, _ => z
  | m + 1, k0 => w_eqInt64S_l0_s3_s z a_n a_l a_c i h0 (w_eqInt64S_l0_s3 z a_n a_l a_c i h0 m k0) k0

/-- laws.eqInt64S -/
def w_eqInt64S_s5 {β : Type} (z : β) (N : Nat) (a_n : Nat) (a_l : Nat) (a_c : Nat) (h0 : List Int) (k0 : Bool → β) : β :=
  cond (a_l.ble 1099511627776) (cond ((↑a_l : Int) != 0) (k0 false) (w_eqInt64S_l0_s3 z a_n a_l a_c 0 h0 N (k0 true))) (z)

/-- laws.markInt64S, loop -/
def w_markInt64S_l0_s3_s {β : Type} (z : β) (a_n : Nat) (a_l : Nat) (a_c : Nat) (k : Int) (i : Int) (h0 : List Int) (kn : Int → Int → (List Int) → β) (k0 : Int → (List Int) → β) : β :=
  cond (a_l.ble 1099511627776) (cond (decide (i < (↑a_l : Int))) (cond (a_n.beq h0.length && (decide (0 ≤ i) && decide (i < (↑a_l : Int)))) (cond (a_n.beq h0.length && i.toNat.blt h0.length) (cond (fits IntKind.i64 (k + 1)) (cond (fits IntKind.i64 (i + 1)) (kn (k + 1) (i + 1) (h0.set i.toNat k)) (z)) (z)) (z)) (z)) (k0 k h0)) (z)
def w_markInt64S_l0_s3 {β : Type} (z : β) (a_n : Nat) (a_l : Nat) (a_c : Nat) : Nat → Int → Int → (List Int) → (Int → (List Int) → β) → β
  | 0, _, _, _, _ => z
  | m + 1, k, i, h0, k0 => w_markInt64S_l0_s3_s z a_n a_l a_c k i h0 (fun k i h0 => w_markInt64S_l0_s3 z a_n a_l a_c m k i h0 k0) k0

/-- laws.markInt64S -/
def w_markInt64S_s3 {β : Type} (z : β) (N : Nat) (a_n : Nat) (a_l : Nat) (a_c : Nat) (k : Int) (h0 : List Int) (k0 : Int → (List Int) → β) : β :=
  w_markInt64S_l0_s3 z a_n a_l a_c N k 0 h0 (fun q8 q9 => k0 q8 q9)

/-- laws.heldInt64S, loop -/
def w_heldInt64S_l0_s3_s {β : Type} (z : β) (a_n : Nat) (a_l : Nat) (a_c : Nat) (h0 : List Int) (k : Int) (i : Int) (kn : Int → Int → β) (k0 : β) (k1 : Int → β) : β :=
  cond (a_l.ble 1099511627776) (cond (decide (i < (↑a_l : Int))) (cond (a_n.beq h0.length && (decide (0 ≤ i) && decide (i < (↑a_l : Int)))) (cond (a_n.beq h0.length && i.toNat.blt h0.length) (cond (h0[i.toNat]?.getD 0 != k) (k0) (cond (fits IntKind.i64 (k + 1)) (cond (fits IntKind.i64 (i + 1)) (kn (k + 1) (i + 1)) (z)) (z))) (z)) (z)) (k1 k)) (z)
def w_heldInt64S_l0_s3 {β : Type} (z : β) (a_n : Nat) (a_l : Nat) (a_c : Nat) (h0 : List Int) : Nat → Int → Int → β → (Int → β) → β
  | 0, _, _, _, _ => z
  | m + 1, k, i, k0, k1 => w_heldInt64S_l0_s3_s z a_n a_l a_c h0 k i (fun k i => w_heldInt64S_l0_s3 z a_n a_l a_c h0 m k i k0 k1) k0 k1

/-- laws.heldInt64S -/
def w_heldInt64S_s3 {β : Type} (z : β) (N : Nat) (a_n : Nat) (a_l : Nat) (a_c : Nat) (k : Int) (h0 : List Int) (k0 : Int → β) : β :=
  w_heldInt64S_l0_s3 z a_n a_l a_c h0 N k 0 (k0 (-1)) (fun q8 => k0 q8)

/-- laws.eqInt64S, loop -/
def w_eqInt64S_l0_s4_s {β : Type} (z : β) (b_n : Nat) (b_l : Nat) (b_c : Nat) (i : Int) (h0 : List Int)  (kn : β) (k0 : β) : β :=
  cond (decide (i < 0)) (z) (k0)
def w_eqInt64S_l0_s4 {β : Type} (z : β) (b_n : Nat) (b_l : Nat) (b_c : Nat) (i : Int) (h0 : List Int) : Nat → β → β
  | 0, _ => z
  | m + 1, k0 => w_eqInt64S_l0_s4_s z b_n b_l b_c i h0 (w_eqInt64S_l0_s4 z b_n b_l b_c i h0 m k0) k0

/-- laws.eqInt64S -/
def w_eqInt64S_s6 {β : Type} (z : β) (N : Nat) (b_n : Nat) (b_l : Nat) (b_c : Nat) (h0 : List Int) (k0 : Bool → β) : β :=
  cond (b_l.ble 1099511627776) (cond (0 != (↑b_l : Int)) (k0 false) (w_eqInt64S_l0_s4 z b_n b_l b_c 0 h0 N (k0 true))) (z)

/-- laws.eqInt64S, loop -/
def w_eqInt64S_l0_s5_s {β : Type} (z : β) (a_n : Nat) (a_l : Nat) (a_c : Nat) (b_n : Nat) (b_l : Nat) (b_c : Nat) (h0 : List Int) (h1 : List Int) (i : Int) (kn : Int → β) (k0 : β) (k1 : β) : β :=
  cond (a_l.ble 1099511627776) (cond (decide (i < (↑a_l : Int))) (cond (a_n.beq h0.length && (decide (0 ≤ i) && decide (i < (↑a_l : Int)))) (cond (a_n.beq h0.length && i.toNat.blt h0.length) (cond (b_n.beq h1.length && (decide (0 ≤ i) && decide (i < (↑b_l : Int)))) (cond (b_n.beq h1.length && i.toNat.blt h1.length) (cond (h0[i.toNat]?.getD 0 != h1[i.toNat]?.getD 0) (k0) (cond (fits IntKind.i64 (i + 1)) (kn (i + 1)) (z))) (z)) (z)) (z)) (z)) (k1)) (z)
def w_eqInt64S_l0_s5 {β : Type} (z : β) (a_n : Nat) (a_l : Nat) (a_c : Nat) (b_n : Nat) (b_l : Nat) (b_c : Nat) (h0 : List Int) (h1 : List Int) : Nat → Int → β → β → β
  | 0, _, _, _ => z
  | m + 1, i, k0, k1 => w_eqInt64S_l0_s5_s z a_n a_l a_c b_n b_l b_c h0 h1 i (fun i => w_eqInt64S_l0_s5 z a_n a_l a_c b_n b_l b_c h0 h1 m i k0 k1) k0 k1

/-- laws.eqInt64S -/
def w_eqInt64S_s7 {β : Type} (z : β) (N : Nat) (a_n : Nat) (a_l : Nat) (a_c : Nat) (b_n : Nat) (b_l : Nat) (b_c : Nat) (h0 : List Int) (h1 : List Int) (k0 : Bool → β) : β :=
  cond (a_l.ble 1099511627776) (cond (b_l.ble 1099511627776) (cond ((↑a_l : Int) != (↑b_l : Int)) (k0 false) (w_eqInt64S_l0_s5 z a_n a_l a_c b_n b_l b_c h0 h1 N 0 (k0 false) (k0 true))) (z)) (z)

/-- laws.FnExactDirectionsOf -/
def w_FnExactDirectionsOf {β : Type} (z : β) (N : Nat) (aG_0 : Int) (aG_1 : Nat → Int) (aG_2 : Nat → Int) (k0 : Bool → β) : β :=
  w_toGrid z N aG_0 aG_1 aG_2 (fun q6 q7 => s_DirectionsOf z N aG_0 q6 q7 (fun q8 => w_toGrid z N aG_0 aG_1 aG_2 (fun q9 q10 => i_DirectionsOf z N aG_0 q9 q10 (fun q11 => w_eqInt64S z N (fun q12 => cond (!q12) (k0 false) (cond (q11 != q8) (k0 false) (w_markInt64S z N 1 (w_heldInt64S z N 1 (w_toGrid z N aG_0 aG_1 aG_2 (fun q13 q14 => i_DirectionsOf z N aG_0 q13 q14 (fun q15 => w_eqInt64S z N (fun q16 => cond (!q16) (k0 false) (cond (q15 != q8) (k0 false) (w_heldInt64S z N 1 (k0 true))))) (fun q15 q16 q17 q18 q19 => w_eqInt64S_s5 z N q15 q16 q17 q19 (fun q20 => cond (!q20) (k0 false) (cond (q18 != q8) (k0 false) (w_heldInt64S z N 1 (k0 true)))))))))))) (fun q11 q12 q13 q14 q15 => w_eqInt64S_s5 z N q11 q12 q13 q15 (fun q16 => cond (!q16) (k0 false) (cond (q14 != q8) (k0 false) (w_markInt64S_s3 z N q11 q12 q13 1 q15 (fun q17 q18 => w_heldInt64S_s3 z N q11 q12 q13 1 q18 (fun q19 => cond (decide (q19 < 0)) (k0 false) (cond (q19 != q17) (k0 false) (w_toGrid z N aG_0 aG_1 aG_2 (fun q20 q21 => i_DirectionsOf z N aG_0 q20 q21 (fun q22 => w_eqInt64S z N (fun q23 => cond (!q23) (k0 false) (cond (q22 != q8) (k0 false) (w_heldInt64S_s3 z N q11 q12 q13 1 q18 (fun q24 => cond (decide (q24 < 0)) (k0 false) (cond (q24 != q17) (k0 false) (k0 true))))))) (fun q22 q23 q24 q25 q26 => w_eqInt64S_s5 z N q22 q23 q24 q26 (fun q27 => cond (!q27) (k0 false) (cond (q25 != q8) (k0 false) (w_heldInt64S_s3 z N q11 q12 q13 1 q18 (fun q28 => cond (decide (q28 < 0)) (k0 false) (cond (q28 != q17) (k0 false) (k0 true)))))))))))))))))) (fun q8 q9 q10 q11 q12 => w_toGrid z N aG_0 aG_1 aG_2 (fun q13 q14 => i_DirectionsOf z N aG_0 q13 q14 (fun q15 => w_eqInt64S_s6 z N q8 q9 q10 q12 (fun q16 => cond (!q16) (k0 false) (cond (q15 != q11) (k0 false) (w_markInt64S z N 1 (w_heldInt64S z N 1 (w_toGrid z N aG_0 aG_1 aG_2 (fun q17 q18 => i_DirectionsOf z N aG_0 q17 q18 (fun q19 => w_eqInt64S_s6 z N q8 q9 q10 q12 (fun q20 => cond (!q20) (k0 false) (cond (q19 != q11) (k0 false) (w_heldInt64S z N 1 (k0 true))))) (fun q19 q20 q21 q22 q23 => w_eqInt64S_s7 z N q19 q20 q21 q8 q9 q10 q23 q12 (fun q24 => cond (!q24) (k0 false) (cond (q22 != q11) (k0 false) (w_heldInt64S z N 1 (k0 true)))))))))))) (fun q15 q16 q17 q18 q19 => w_eqInt64S_s7 z N q15 q16 q17 q8 q9 q10 q19 q12 (fun q20 => cond (!q20) (k0 false) (cond (q18 != q11) (k0 false) (w_markInt64S_s3 z N q15 q16 q17 1 q19 (fun q21 q22 => w_heldInt64S_s3 z N q15 q16 q17 1 q22 (fun q23 => cond (decide (q23 < 0)) (k0 false) (cond (q23 != q21) (k0 false) (w_toGrid z N aG_0 aG_1 aG_2 (fun q24 q25 => i_DirectionsOf z N aG_0 q24 q25 (fun q26 => w_eqInt64S_s6 z N q8 q9 q10 q12 (fun q27 => cond (!q27) (k0 false) (cond (q26 != q11) (k0 false) (w_heldInt64S_s3 z N q15 q16 q17 1 q22 (fun q28 => cond (decide (q28 < 0)) (k0 false) (cond (q28 != q21) (k0 false) (k0 true))))))) (fun q26 q27 q28 q29 q30 => w_eqInt64S_s7 z N q26 q27 q28 q8 q9 q10 q30 q12 (fun q31 => cond (!q31) (k0 false) (cond (q29 != q11) (k0 false) (w_heldInt64S_s3 z N q15 q16 q17 1 q22 (fun q32 => cond (decide (q32 < 0)) (k0 false) (cond (q32 != q21) (k0 false) (k0 true)))))))))))))))))))
end Go.AM
