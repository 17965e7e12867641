/- A part of a proof about the given program: an abstract machine, what the given functions come to, and plain laws. -/
import Derived.Test.YtijijnfmcmeioaaDLowerState
import Derived.Test.YtijijnfmcmeioaaDIsMosaic
import Derived.Test.YtijijnfmcmeioaaDExchangeRows
set_option maxRecDepth 100000
namespace Go.AM
/-- spec.l07Kind -/
def s_l07Kind {β : Type} (z : β) (N : Nat) (g_0 : Int) (g_1 : Nat → Int) (g_2 : Nat → Int) (i : Int) (r_ : Int) (isX : Bool) (k0 : Int → β) : β :=
  cond (decide (0 ≤ i) && decide (i < (↑8 : Int))) (cond (i.toNat.blt 8) (s_l01Row z N g_2 g_0 r_ (fun q9 => cond (!isX) (cond (decide (0 ≤ i) && decide (i < (↑8 : Int))) (cond (i.toNat.blt 8) (s_l01Row z N g_1 g_0 r_ (fun q10 => cond (decide (r_ < g_1 i.toNat)) (cond (decide (i < q10)) (k0 0) (cond (decide (r_ < g_1 i.toNat)) (k0 1) (cond (decide (i < q10)) (k0 2) (k0 3)))) (cond (decide (r_ < g_1 i.toNat)) (k0 1) (cond (decide (i < q10)) (k0 2) (k0 3))))) (z)) (z)) (cond (decide (r_ < g_2 i.toNat)) (cond (decide (i < q9)) (k0 0) (cond (decide (r_ < g_2 i.toNat)) (k0 1) (cond (decide (i < q9)) (k0 2) (k0 3)))) (cond (decide (r_ < g_2 i.toNat)) (k0 1) (cond (decide (i < q9)) (k0 2) (k0 3)))))) (z)) (z)

/-- spec.l07Corners, loop -/
def s_l07Corners_l0_s {β : Type} (z : β) (N : Nat) (h0_0 : Int) (h0_1 : Nat → Int) (h0_2 : Nat → Int) (out_n : Nat) (out_l : Nat) (out_c : Nat) (i : Int) (h1 : List Int) (kn : Nat → Nat → Nat → Int → (List Int) → β) (k0 : Nat → Nat → Nat → (List Int) → β) : β :=
  cond (decide (i < h0_0)) (cond (decide (0 ≤ i) && decide (i < (↑8 : Int))) (cond (i.toNat.blt 8) (cond (decide (0 ≤ i) && decide (i < (↑8 : Int))) (cond (i.toNat.blt 8) (s_l07Kind z N h0_0 h0_1 h0_2 i (h0_1 i.toNat) true (fun q12 => s_l07Kind z N h0_0 h0_1 h0_2 i (h0_2 i.toNat) false (fun q13 => cond (out_n.beq h1.length && true) (cond ((out_l + 2).ble 1099511627776 && ((out_l + 2) * 32).ble 1099511627776) (cond ((out_l + 2).ble out_c) (cond (out_n.beq h1.length && (((0 + out_l * 4) % 4).beq 0 && (0 + out_l * 4 + 8).ble h1.length)) (cond (fits IntKind.i64 (i + 1)) (kn out_n (out_l + 2) out_c (i + 1) (List.take (0 + out_l * 4) h1 ++ (fromTo (List.take 4 (List.take 0 (List.replicate 8 0) ++ ([i, h0_1 i.toNat, q12, bif true then 1 else 0] ++ List.drop 4 (List.replicate 8 0))) ++ ([i, h0_2 i.toNat, q13, bif false then 1 else 0] ++ List.drop 8 (List.take 0 (List.replicate 8 0) ++ ([i, h0_1 i.toNat, q12, bif true then 1 else 0] ++ List.drop 4 (List.replicate 8 0))))) 0 8 ++ List.drop (0 + out_l * 4 + 8) h1))) (z)) (z)) (cond ((out_l * 4).beq h1.length && (h1.length % 4).beq 0) (cond (fits IntKind.i64 (i + 1)) (kn ((h1 ++ fromTo (List.take 4 (List.take 0 (List.replicate 8 0) ++ ([i, h0_1 i.toNat, q12, bif true then 1 else 0] ++ List.drop 4 (List.replicate 8 0))) ++ ([i, h0_2 i.toNat, q13, bif false then 1 else 0] ++ List.drop 8 (List.take 0 (List.replicate 8 0) ++ ([i, h0_1 i.toNat, q12, bif true then 1 else 0] ++ List.drop 4 (List.replicate 8 0))))) 0 8).length) (out_l + 2) (out_l + 2) (i + 1) (h1 ++ fromTo (List.take 4 (List.take 0 (List.replicate 8 0) ++ ([i, h0_1 i.toNat, q12, bif true then 1 else 0] ++ List.drop 4 (List.replicate 8 0))) ++ ([i, h0_2 i.toNat, q13, bif false then 1 else 0] ++ List.drop 8 (List.take 0 (List.replicate 8 0) ++ ([i, h0_1 i.toNat, q12, bif true then 1 else 0] ++ List.drop 4 (List.replicate 8 0))))) 0 8)) (z)) (z))) (z)) (z)))) (z)) (z)) (z)) (z)) (k0 out_n out_l out_c h1)
def s_l07Corners_l0 {β : Type} (z : β) (N : Nat) (h0_0 : Int) (h0_1 : Nat → Int) (h0_2 : Nat → Int) : Nat → Nat → Nat → Nat → Int → (List Int) → (Nat → Nat → Nat → (List Int) → β) → β
  | 0, _, _, _, _, _, _ => z
  | m + 1, out_n, out_l, out_c, i, h1, k0 => s_l07Corners_l0_s z N h0_0 h0_1 h0_2 out_n out_l out_c i h1 (fun out_n out_l out_c i h1 => s_l07Corners_l0 z N h0_0 h0_1 h0_2 m out_n out_l out_c i h1 k0) k0

/-- spec.l07Corners -/
def s_l07Corners {β : Type} (z : β) (N : Nat) (g_0 : Int) (g_1 : Nat → Int) (g_2 : Nat → Int) (k0 : Nat → Nat → Nat → (List Int) → β) : β :=
  s_l07Corners_l0 z N g_0 g_1 g_2 N 0 0 0 0 (List.replicate 0 0) (fun q6 q7 q8 q9 => k0 q6 q7 q8 q9)

/-- spec.CornersOf -/
def s_CornersOf {β : Type} (z : β) (N : Nat) (g_0 : Int) (g_1 : Nat → Int) (g_2 : Nat → Int) (k0 : Int → β) (k1 : Nat → Nat → Nat → Int → (List Int) → β) : β :=
  s_l01Is z N g_0 g_1 g_2 (fun q6 => cond (!q6) (k0 1) (s_l07Corners z N g_0 g_1 g_2 (fun q7 q8 q9 q10 => k1 q7 q8 q9 0 q10)))

/-- impl.kind -/
def i_kind {β : Type} (z : β) (N : Nat) (column : Int) (row : Int) (otherRow : Int) (otherColumn : Int) (k0 : Int → β) : β :=
  cond (decide (otherRow < row)) (cond (decide (otherColumn < column)) (k0 3) (k0 2)) (cond (decide (otherColumn < column)) (k0 1) (k0 0))

/-- (impl.Grid).corners, loop -/
def i_Grid_corners_l0_s {β : Type} (z : β) (N : Nat) (t19 : Int) (h0_0 : Int) (h0_1 : Nat → Int) (h0_2 : Nat → Int) (h2 : Nat → Int) (h3 : Nat → Int) (out_n : Nat) (out_l : Nat) (out_c : Nat) (t20 : Int) (h1 : List Int) (kn : Nat → Nat → Nat → Int → (List Int) → β) (k0 : Nat → Nat → Nat → (List Int) → β) : β :=
  cond (decide (t20 < t19)) (cond (decide (0 ≤ t20) && decide (t20 < (↑8 : Int))) (cond (t20.toNat.blt 8) (cond (decide (0 ≤ t20) && decide (t20 < (↑8 : Int))) (cond (t20.toNat.blt 8) (cond (decide (0 ≤ h0_1 t20.toNat) && decide (h0_1 t20.toNat < (↑8 : Int))) (cond ((h0_1 t20.toNat).toNat.blt 8) (i_kind z N t20 (h0_1 t20.toNat) (h0_2 t20.toNat) (h3 (h0_1 t20.toNat).toNat) (fun q15 => cond (out_n.beq h1.length && true) (cond ((out_l + 1).ble 1099511627776 && ((out_l + 1) * 32).ble 1099511627776) (cond ((out_l + 1).ble out_c) (cond (out_n.beq h1.length && (((0 + out_l * 4) % 4).beq 0 && (0 + out_l * 4 + 4).ble h1.length)) (cond (decide (0 ≤ h0_2 t20.toNat) && decide (h0_2 t20.toNat < (↑8 : Int))) (cond ((h0_2 t20.toNat).toNat.blt 8) (i_kind z N t20 (h0_2 t20.toNat) (h0_1 t20.toNat) (h2 (h0_2 t20.toNat).toNat) (fun q16 => cond (out_n.beq (List.take (0 + out_l * 4) h1 ++ (fromTo [t20, h0_1 t20.toNat, q15, bif true then 1 else 0] 0 4 ++ List.drop (0 + out_l * 4 + 4) h1)).length && true) (cond ((out_l + 1 + 1).ble 1099511627776 && ((out_l + 1 + 1) * 32).ble 1099511627776) (cond ((out_l + 1 + 1).ble out_c) (cond (out_n.beq (List.take (0 + out_l * 4) h1 ++ (fromTo [t20, h0_1 t20.toNat, q15, bif true then 1 else 0] 0 4 ++ List.drop (0 + out_l * 4 + 4) h1)).length && (((0 + (out_l + 1) * 4) % 4).beq 0 && (0 + (out_l + 1) * 4 + 4).ble (List.take (0 + out_l * 4) h1 ++ (fromTo [t20, h0_1 t20.toNat, q15, bif true then 1 else 0] 0 4 ++ List.drop (0 + out_l * 4 + 4) h1)).length)) (cond (fits IntKind.i64 (t20 + 1)) (kn out_n (out_l + 1 + 1) out_c (t20 + 1) (List.take (0 + (out_l + 1) * 4) (List.take (0 + out_l * 4) h1 ++ (fromTo [t20, h0_1 t20.toNat, q15, bif true then 1 else 0] 0 4 ++ List.drop (0 + out_l * 4 + 4) h1)) ++ (fromTo [t20, h0_2 t20.toNat, q16, bif false then 1 else 0] 0 4 ++ List.drop (0 + (out_l + 1) * 4 + 4) (List.take (0 + out_l * 4) h1 ++ (fromTo [t20, h0_1 t20.toNat, q15, bif true then 1 else 0] 0 4 ++ List.drop (0 + out_l * 4 + 4) h1))))) (z)) (z)) (cond (((out_l + 1) * 4).beq (List.take (0 + out_l * 4) h1 ++ (fromTo [t20, h0_1 t20.toNat, q15, bif true then 1 else 0] 0 4 ++ List.drop (0 + out_l * 4 + 4) h1)).length && ((List.take (0 + out_l * 4) h1 ++ (fromTo [t20, h0_1 t20.toNat, q15, bif true then 1 else 0] 0 4 ++ List.drop (0 + out_l * 4 + 4) h1)).length % 4).beq 0) (cond (fits IntKind.i64 (t20 + 1)) (kn ((List.take (0 + out_l * 4) h1 ++ (fromTo [t20, h0_1 t20.toNat, q15, bif true then 1 else 0] 0 4 ++ List.drop (0 + out_l * 4 + 4) h1) ++ fromTo [t20, h0_2 t20.toNat, q16, bif false then 1 else 0] 0 4).length) (out_l + 1 + 1) (out_l + 1 + 1) (t20 + 1) (List.take (0 + out_l * 4) h1 ++ (fromTo [t20, h0_1 t20.toNat, q15, bif true then 1 else 0] 0 4 ++ List.drop (0 + out_l * 4 + 4) h1) ++ fromTo [t20, h0_2 t20.toNat, q16, bif false then 1 else 0] 0 4)) (z)) (z))) (z)) (z))) (z)) (z)) (z)) (cond ((out_l * 4).beq h1.length && (h1.length % 4).beq 0) (cond (decide (0 ≤ h0_2 t20.toNat) && decide (h0_2 t20.toNat < (↑8 : Int))) (cond ((h0_2 t20.toNat).toNat.blt 8) (i_kind z N t20 (h0_2 t20.toNat) (h0_1 t20.toNat) (h2 (h0_2 t20.toNat).toNat) (fun q16 => cond ((h1 ++ fromTo [t20, h0_1 t20.toNat, q15, bif true then 1 else 0] 0 4).length.beq (h1 ++ fromTo [t20, h0_1 t20.toNat, q15, bif true then 1 else 0] 0 4).length && true) (cond ((out_l + 1 + 1).ble 1099511627776 && ((out_l + 1 + 1) * 32).ble 1099511627776) (cond ((out_l + 1 + 1).ble (out_l + 1)) (cond ((h1 ++ fromTo [t20, h0_1 t20.toNat, q15, bif true then 1 else 0] 0 4).length.beq (h1 ++ fromTo [t20, h0_1 t20.toNat, q15, bif true then 1 else 0] 0 4).length && (((0 + (out_l + 1) * 4) % 4).beq 0 && (0 + (out_l + 1) * 4 + 4).ble (h1 ++ fromTo [t20, h0_1 t20.toNat, q15, bif true then 1 else 0] 0 4).length)) (cond (fits IntKind.i64 (t20 + 1)) (kn ((h1 ++ fromTo [t20, h0_1 t20.toNat, q15, bif true then 1 else 0] 0 4).length) (out_l + 1 + 1) (out_l + 1) (t20 + 1) (List.take (0 + (out_l + 1) * 4) (h1 ++ fromTo [t20, h0_1 t20.toNat, q15, bif true then 1 else 0] 0 4) ++ (fromTo [t20, h0_2 t20.toNat, q16, bif false then 1 else 0] 0 4 ++ List.drop (0 + (out_l + 1) * 4 + 4) (h1 ++ fromTo [t20, h0_1 t20.toNat, q15, bif true then 1 else 0] 0 4)))) (z)) (z)) (cond (((out_l + 1) * 4).beq (h1 ++ fromTo [t20, h0_1 t20.toNat, q15, bif true then 1 else 0] 0 4).length && ((h1 ++ fromTo [t20, h0_1 t20.toNat, q15, bif true then 1 else 0] 0 4).length % 4).beq 0) (cond (fits IntKind.i64 (t20 + 1)) (kn ((h1 ++ fromTo [t20, h0_1 t20.toNat, q15, bif true then 1 else 0] 0 4 ++ fromTo [t20, h0_2 t20.toNat, q16, bif false then 1 else 0] 0 4).length) (out_l + 1 + 1) (out_l + 1 + 1) (t20 + 1) (h1 ++ fromTo [t20, h0_1 t20.toNat, q15, bif true then 1 else 0] 0 4 ++ fromTo [t20, h0_2 t20.toNat, q16, bif false then 1 else 0] 0 4)) (z)) (z))) (z)) (z))) (z)) (z)) (z))) (z)) (z))) (z)) (z)) (z)) (z)) (z)) (z)) (k0 out_n out_l out_c h1)
def i_Grid_corners_l0 {β : Type} (z : β) (N : Nat) (t19 : Int) (h0_0 : Int) (h0_1 : Nat → Int) (h0_2 : Nat → Int) (h2 : Nat → Int) (h3 : Nat → Int) : Nat → Nat → Nat → Nat → Int → (List Int) → (Nat → Nat → Nat → (List Int) → β) → β
  | 0, _, _, _, _, _, _ => z
  | m + 1, out_n, out_l, out_c, t20, h1, k0 => i_Grid_corners_l0_s z N t19 h0_0 h0_1 h0_2 h2 h3 out_n out_l out_c t20 h1 (fun out_n out_l out_c t20 h1 => i_Grid_corners_l0 z N t19 h0_0 h0_1 h0_2 h2 h3 m out_n out_l out_c t20 h1 k0) k0

/-- (impl.Grid).corners -/
def i_Grid_corners {β : Type} (z : β) (N : Nat) (g_0 : Int) (g_1 : Nat → Int) (g_2 : Nat → Int) (k0 : Nat → Nat → Nat → (List Int) → β) : β :=
  i_Grid_places z N g_0 g_1 g_2 g_1 (fun q6 => i_Grid_places z N g_0 g_1 g_2 g_2 (fun q7 => i_Grid_n z N g_0 g_1 g_2 (i_Grid_corners_l0 z N g_0 g_0 g_1 g_2 q6 q7 N 0 0 0 0 (List.replicate 0 0) (fun q8 q9 q10 q11 => k0 q8 q9 q10 q11))))

/-- impl.whole[[]impl.Corner] -/
def i_whole_i_Corner {β : Type} (z : β) (N : Nat) (g_0 : Int) (g_1 : Nat → Int) (g_2 : Nat → Int) (k0 : Int → β) (k1 : Nat → Nat → Nat → Int → (List Int) → β) : β :=
  i_IsGrid z N g_0 g_1 g_2 (fun q6 => cond (!q6) (k0 1) (i_Grid_corners z N g_0 g_1 g_2 (fun q7 q8 q9 q10 => k1 q7 q8 q9 0 q10)))

/-- impl.CornersOf -/
def i_CornersOf {β : Type} (z : β) (N : Nat) (g_0 : Int) (g_1 : Nat → Int) (g_2 : Nat → Int) (k0 : Int → β) (k1 : Nat → Nat → Nat → Int → (List Int) → β) : β :=
  i_whole_i_Corner z N g_0 g_1 g_2 (fun q6 => k0 q6) (fun q6 q7 q8 q9 q10 => k1 q6 q7 q8 q9 q10)

/-- laws.eqCornerS, loop -/
def w_eqCornerS_l0_s {β : Type} (z : β) (i : Int)  (kn : β) (k0 : β) : β :=
  cond (decide (i < 0)) (z) (k0)
def w_eqCornerS_l0 {β : Type} (z : β) (i : Int) : Nat → β → β
  | 0, _ => z
  | m + 1, k0 => w_eqCornerS_l0_s z i (w_eqCornerS_l0 z i m k0) k0

/-- laws.eqCornerS -/
def w_eqCornerS {β : Type} (z : β) (N : Nat)  (k0 : Bool → β) : β :=
  w_eqCornerS_l0 z 0 N (k0 true)

/-- laws.markCornerS, loop -/
def w_markCornerS_l0_s {β : Type} (z : β) (k : Int) (i : Int)  (kn : β) (k0 : β) : β :=
  cond (decide (i < 0)) (z) (k0)
def w_markCornerS_l0 {β : Type} (z : β) (k : Int) (i : Int) : Nat → β → β
  | 0, _ => z
  | m + 1, k0 => w_markCornerS_l0_s z k i (w_markCornerS_l0 z k i m k0) k0

/-- laws.markCornerS -/
def w_markCornerS {β : Type} (z : β) (N : Nat) (k : Int) (k0 : β) : β :=
  w_markCornerS_l0 z k 0 N k0

/-- laws.heldCornerS, loop -/
def w_heldCornerS_l0_s {β : Type} (z : β) (k : Int) (i : Int)  (kn : β) (k0 : β) : β :=
  cond (decide (i < 0)) (z) (k0)
def w_heldCornerS_l0 {β : Type} (z : β) (k : Int) (i : Int) : Nat → β → β
  | 0, _ => z
  | m + 1, k0 => w_heldCornerS_l0_s z k i (w_heldCornerS_l0 z k i m k0) k0

/-- laws.heldCornerS -/
def w_heldCornerS {β : Type} (z : β) (N : Nat) (k : Int) (k0 : β) : β :=
  w_heldCornerS_l0 z k 0 N k0

/-- laws.eqCornerS, loop -/
def w_eqCornerS_l0_s2_s {β : Type} (z : β) (a_n : Nat) (a_l : Nat) (a_c : Nat) (i : Int) (h0 : List Int)  (kn : β) (k0 : β) : β :=
  cond (a_l.ble 9223372036854775807) (cond (decide (i < (↑a_l : Int))) (cond (a_n.beq h0.length && (decide (0 ≤ i) && decide (i < (↑a_l : Int)))) (cond (a_n.beq h0.length && ((i.toNat * 4 % 4).beq 0 && (i.toNat * 4 + 4).ble h0.length)) (z) (z)) (z)) (k0)) (z)
def w_eqCornerS_l0_s2 {β : Type} (z : β) (a_n : Nat) (a_l : Nat) (a_c : Nat) (i : Int) (h0 : List Int) : Nat → β → β
  | 0, _ => z
  | m + 1, k0 => w_eqCornerS_l0_s2_s z a_n a_l a_c i h0 (w_eqCornerS_l0_s2 z a_n a_l a_c i h0 m k0) k0

/-- laws.eqCornerS -/
def w_eqCornerS_s2 {β : Type} (z : β) (N : Nat) (a_n : Nat) (a_l : Nat) (a_c : Nat) (h0 : List Int) (k0 : Bool → β) : β :=
  cond (a_l.ble 9223372036854775807) (cond ((↑a_l : Int) != 0) (k0 false) (w_eqCornerS_l0_s2 z a_n a_l a_c 0 h0 N (k0 true))) (z)

/-- laws.markCornerS, loop -/
def w_markCornerS_l0_s2_s {β : Type} (z : β) (a_n : Nat) (a_l : Nat) (a_c : Nat) (k : Int) (i : Int) (h0 : List Int) (kn : Int → Int → (List Int) → β) (k0 : Int → (List Int) → β) : β :=
  cond (a_l.ble 9223372036854775807) (cond (decide (i < (↑a_l : Int))) (cond (a_n.beq h0.length && (decide (0 ≤ i) && decide (i < (↑a_l : Int)))) (cond (a_n.beq h0.length) (cond (a_n.beq h0.length && ((i.toNat * 4 % 4).beq 0 && (i.toNat * 4 + 4).ble h0.length)) (cond (fits IntKind.i64 (k + 1)) (cond (a_n.beq (h0.set (addO (i.toNat * 4) 0) k).length && (decide (0 ≤ i) && decide (i < (↑a_l : Int)))) (cond (a_n.beq (h0.set (addO (i.toNat * 4) 0) k).length) (cond (a_n.beq (h0.set (addO (i.toNat * 4) 0) k).length && ((i.toNat * 4 % 4).beq 0 && (i.toNat * 4 + 4).ble (h0.set (addO (i.toNat * 4) 0) k).length)) (cond (fits IntKind.i64 (k + 1 + 1)) (cond (a_n.beq ((h0.set (addO (i.toNat * 4) 0) k).set (addO (i.toNat * 4) 1) (k + 1)).length && (decide (0 ≤ i) && decide (i < (↑a_l : Int)))) (cond (a_n.beq ((h0.set (addO (i.toNat * 4) 0) k).set (addO (i.toNat * 4) 1) (k + 1)).length) (cond (a_n.beq ((h0.set (addO (i.toNat * 4) 0) k).set (addO (i.toNat * 4) 1) (k + 1)).length && ((i.toNat * 4 % 4).beq 0 && (i.toNat * 4 + 4).ble ((h0.set (addO (i.toNat * 4) 0) k).set (addO (i.toNat * 4) 1) (k + 1)).length)) (cond (fits IntKind.i64 (k + 1 + 1 + 1)) (cond (a_n.beq (((h0.set (addO (i.toNat * 4) 0) k).set (addO (i.toNat * 4) 1) (k + 1)).set (addO (i.toNat * 4) 2) (k + 1 + 1)).length && (decide (0 ≤ i) && decide (i < (↑a_l : Int)))) (cond (a_n.beq (((h0.set (addO (i.toNat * 4) 0) k).set (addO (i.toNat * 4) 1) (k + 1)).set (addO (i.toNat * 4) 2) (k + 1 + 1)).length) (cond (a_n.beq (((h0.set (addO (i.toNat * 4) 0) k).set (addO (i.toNat * 4) 1) (k + 1)).set (addO (i.toNat * 4) 2) (k + 1 + 1)).length && ((i.toNat * 4 % 4).beq 0 && (i.toNat * 4 + 4).ble (((h0.set (addO (i.toNat * 4) 0) k).set (addO (i.toNat * 4) 1) (k + 1)).set (addO (i.toNat * 4) 2) (k + 1 + 1)).length)) (cond (fits IntKind.i64 (k + 1 + 1 + 1 + 1)) (cond (fits IntKind.i64 (i + 1)) (kn (k + 1 + 1 + 1 + 1) (i + 1) ((((h0.set (addO (i.toNat * 4) 0) k).set (addO (i.toNat * 4) 1) (k + 1)).set (addO (i.toNat * 4) 2) (k + 1 + 1)).set (addO (i.toNat * 4) 3) (bif (k + 1 + 1 + 1).tmod 3 == 0 then 1 else 0))) (z)) (z)) (z)) (z)) (z)) (z)) (z)) (z)) (z)) (z)) (z)) (z)) (z)) (z)) (z)) (z)) (z)) (k0 k h0)) (z)
def w_markCornerS_l0_s2 {β : Type} (z : β) (a_n : Nat) (a_l : Nat) (a_c : Nat) : Nat → Int → Int → (List Int) → (Int → (List Int) → β) → β
  | 0, _, _, _, _ => z
  | m + 1, k, i, h0, k0 => w_markCornerS_l0_s2_s z a_n a_l a_c k i h0 (fun k i h0 => w_markCornerS_l0_s2 z a_n a_l a_c m k i h0 k0) k0

/-- laws.markCornerS -/
def w_markCornerS_s2 {β : Type} (z : β) (N : Nat) (a_n : Nat) (a_l : Nat) (a_c : Nat) (k : Int) (h0 : List Int) (k0 : Int → (List Int) → β) : β :=
  w_markCornerS_l0_s2 z a_n a_l a_c N k 0 h0 (fun q8 q9 => k0 q8 q9)

/-- laws.heldCornerS, loop -/
def w_heldCornerS_l0_s2_s {β : Type} (z : β) (a_n : Nat) (a_l : Nat) (a_c : Nat) (h0 : List Int) (k : Int) (i : Int) (kn : Int → Int → β) (k0 : β) (k1 : Int → β) : β :=
  cond (a_l.ble 9223372036854775807) (cond (decide (i < (↑a_l : Int))) (cond (a_n.beq h0.length && (decide (0 ≤ i) && decide (i < (↑a_l : Int)))) (cond (a_n.beq h0.length) (cond (a_n.beq h0.length && ((i.toNat * 4 % 4).beq 0 && (i.toNat * 4 + 4).ble h0.length)) (cond (h0[addO (i.toNat * 4) 0]?.getD 0 != k) (k0) (cond (fits IntKind.i64 (k + 1)) (cond (a_n.beq h0.length && (decide (0 ≤ i) && decide (i < (↑a_l : Int)))) (cond (a_n.beq h0.length) (cond (a_n.beq h0.length && ((i.toNat * 4 % 4).beq 0 && (i.toNat * 4 + 4).ble h0.length)) (cond (h0[addO (i.toNat * 4) 1]?.getD 0 != k + 1) (k0) (cond (fits IntKind.i64 (k + 1 + 1)) (cond (a_n.beq h0.length && (decide (0 ≤ i) && decide (i < (↑a_l : Int)))) (cond (a_n.beq h0.length) (cond (a_n.beq h0.length && ((i.toNat * 4 % 4).beq 0 && (i.toNat * 4 + 4).ble h0.length)) (cond (h0[addO (i.toNat * 4) 2]?.getD 0 != k + 1 + 1) (k0) (cond (fits IntKind.i64 (k + 1 + 1 + 1)) (cond (a_n.beq h0.length && (decide (0 ≤ i) && decide (i < (↑a_l : Int)))) (cond (a_n.beq h0.length) (cond (a_n.beq h0.length && ((i.toNat * 4 % 4).beq 0 && (i.toNat * 4 + 4).ble h0.length)) (cond ((h0[addO (i.toNat * 4) 3]?.getD 0 != 0) != ((k + 1 + 1 + 1).tmod 3 == 0)) (k0) (cond (fits IntKind.i64 (k + 1 + 1 + 1 + 1)) (cond (fits IntKind.i64 (i + 1)) (kn (k + 1 + 1 + 1 + 1) (i + 1)) (z)) (z))) (z)) (z)) (z)) (z))) (z)) (z)) (z)) (z))) (z)) (z)) (z)) (z))) (z)) (z)) (z)) (k1 k)) (z)
def w_heldCornerS_l0_s2 {β : Type} (z : β) (a_n : Nat) (a_l : Nat) (a_c : Nat) (h0 : List Int) : Nat → Int → Int → β → (Int → β) → β
  | 0, _, _, _, _ => z
  | m + 1, k, i, k0, k1 => w_heldCornerS_l0_s2_s z a_n a_l a_c h0 k i (fun k i => w_heldCornerS_l0_s2 z a_n a_l a_c h0 m k i k0 k1) k0 k1

/-- laws.heldCornerS -/
def w_heldCornerS_s2 {β : Type} (z : β) (N : Nat) (a_n : Nat) (a_l : Nat) (a_c : Nat) (k : Int) (h0 : List Int) (k0 : Int → β) : β :=
  w_heldCornerS_l0_s2 z a_n a_l a_c h0 N k 0 (k0 (-1)) (fun q8 => k0 q8)

/-- laws.eqCornerS, loop -/
def w_eqCornerS_l0_s3_s {β : Type} (z : β) (b_n : Nat) (b_l : Nat) (b_c : Nat) (i : Int) (h0 : List Int)  (kn : β) (k0 : β) : β :=
  cond (decide (i < 0)) (z) (k0)
def w_eqCornerS_l0_s3 {β : Type} (z : β) (b_n : Nat) (b_l : Nat) (b_c : Nat) (i : Int) (h0 : List Int) : Nat → β → β
  | 0, _ => z
  | m + 1, k0 => w_eqCornerS_l0_s3_s z b_n b_l b_c i h0 (w_eqCornerS_l0_s3 z b_n b_l b_c i h0 m k0) k0

/-- laws.eqCornerS -/
def w_eqCornerS_s3 {β : Type} (z : β) (N : Nat) (b_n : Nat) (b_l : Nat) (b_c : Nat) (h0 : List Int) (k0 : Bool → β) : β :=
  cond (b_l.ble 9223372036854775807) (cond (0 != (↑b_l : Int)) (k0 false) (w_eqCornerS_l0_s3 z b_n b_l b_c 0 h0 N (k0 true))) (z)

/-- laws.eqCorner -/
def w_eqCorner {β : Type} (z : β) (N : Nat) (a_0 : Int) (a_1 : Int) (a_2 : Int) (a_3 : Bool) (b_0 : Int) (b_1 : Int) (b_2 : Int) (b_3 : Bool) (k0 : Bool → β) : β :=
  cond (a_0 != b_0) (k0 false) (cond (a_1 != b_1) (k0 false) (cond (a_2 != b_2) (k0 false) (cond (a_3 != b_3) (k0 false) (k0 true))))

/-- laws.eqCornerS, loop -/
def w_eqCornerS_l0_s4_s {β : Type} (z : β) (N : Nat) (a_n : Nat) (a_l : Nat) (a_c : Nat) (b_n : Nat) (b_l : Nat) (b_c : Nat) (h0 : List Int) (h1 : List Int) (i : Int) (kn : Int → β) (k0 : β) (k1 : β) : β :=
  cond (a_l.ble 9223372036854775807) (cond (decide (i < (↑a_l : Int))) (cond (a_n.beq h0.length && (decide (0 ≤ i) && decide (i < (↑a_l : Int)))) (cond (a_n.beq h0.length && ((i.toNat * 4 % 4).beq 0 && (i.toNat * 4 + 4).ble h0.length)) (cond (b_n.beq h1.length && (decide (0 ≤ i) && decide (i < (↑b_l : Int)))) (cond (b_n.beq h1.length && ((i.toNat * 4 % 4).beq 0 && (i.toNat * 4 + 4).ble h1.length)) (w_eqCorner z N (h0[addO (i.toNat * 4) 0]?.getD 0) (h0[addO (i.toNat * 4) 1]?.getD 0) (h0[addO (i.toNat * 4) 2]?.getD 0) (h0[addO (i.toNat * 4) 3]?.getD 0 != 0) (h1[addO (i.toNat * 4) 0]?.getD 0) (h1[addO (i.toNat * 4) 1]?.getD 0) (h1[addO (i.toNat * 4) 2]?.getD 0) (h1[addO (i.toNat * 4) 3]?.getD 0 != 0) (fun q13 => cond (!q13) (k0) (cond (fits IntKind.i64 (i + 1)) (kn (i + 1)) (z)))) (z)) (z)) (z)) (z)) (k1)) (z)
def w_eqCornerS_l0_s4 {β : Type} (z : β) (N : Nat) (a_n : Nat) (a_l : Nat) (a_c : Nat) (b_n : Nat) (b_l : Nat) (b_c : Nat) (h0 : List Int) (h1 : List Int) : Nat → Int → β → β → β
  | 0, _, _, _ => z
  | m + 1, i, k0, k1 => w_eqCornerS_l0_s4_s z N a_n a_l a_c b_n b_l b_c h0 h1 i (fun i => w_eqCornerS_l0_s4 z N a_n a_l a_c b_n b_l b_c h0 h1 m i k0 k1) k0 k1

/-- laws.eqCornerS -/
def w_eqCornerS_s4 {β : Type} (z : β) (N : Nat) (a_n : Nat) (a_l : Nat) (a_c : Nat) (b_n : Nat) (b_l : Nat) (b_c : Nat) (h0 : List Int) (h1 : List Int) (k0 : Bool → β) : β :=
  cond (a_l.ble 9223372036854775807) (cond (b_l.ble 9223372036854775807) (cond ((↑a_l : Int) != (↑b_l : Int)) (k0 false) (w_eqCornerS_l0_s4 z N a_n a_l a_c b_n b_l b_c h0 h1 N 0 (k0 false) (k0 true))) (z)) (z)

/-- laws.FnExactCornersOf -/
def w_FnExactCornersOf {β : Type} (z : β) (N : Nat) (aG_0 : Int) (aG_1 : Nat → Int) (aG_2 : Nat → Int) (k0 : Bool → β) : β :=
  w_toGrid z N aG_0 aG_1 aG_2 (fun q6 q7 => s_CornersOf z N aG_0 q6 q7 (fun q8 => w_toGrid z N aG_0 aG_1 aG_2 (fun q9 q10 => i_CornersOf z N aG_0 q9 q10 (fun q11 => w_eqCornerS z N (fun q12 => cond (!q12) (k0 false) (cond (q11 != q8) (k0 false) (w_markCornerS z N 1 (w_heldCornerS z N 1 (w_toGrid z N aG_0 aG_1 aG_2 (fun q13 q14 => i_CornersOf z N aG_0 q13 q14 (fun q15 => w_eqCornerS z N (fun q16 => cond (!q16) (k0 false) (cond (q15 != q8) (k0 false) (w_heldCornerS z N 1 (k0 true))))) (fun q15 q16 q17 q18 q19 => w_eqCornerS_s2 z N q15 q16 q17 q19 (fun q20 => cond (!q20) (k0 false) (cond (q18 != q8) (k0 false) (w_heldCornerS z N 1 (k0 true)))))))))))) (fun q11 q12 q13 q14 q15 => w_eqCornerS_s2 z N q11 q12 q13 q15 (fun q16 => cond (!q16) (k0 false) (cond (q14 != q8) (k0 false) (w_markCornerS_s2 z N q11 q12 q13 1 q15 (fun q17 q18 => w_heldCornerS_s2 z N q11 q12 q13 1 q18 (fun q19 => cond (decide (q19 < 0)) (k0 false) (cond (q19 != q17) (k0 false) (w_toGrid z N aG_0 aG_1 aG_2 (fun q20 q21 => i_CornersOf z N aG_0 q20 q21 (fun q22 => w_eqCornerS z N (fun q23 => cond (!q23) (k0 false) (cond (q22 != q8) (k0 false) (w_heldCornerS_s2 z N q11 q12 q13 1 q18 (fun q24 => cond (decide (q24 < 0)) (k0 false) (cond (q24 != q17) (k0 false) (k0 true))))))) (fun q22 q23 q24 q25 q26 => w_eqCornerS_s2 z N q22 q23 q24 q26 (fun q27 => cond (!q27) (k0 false) (cond (q25 != q8) (k0 false) (w_heldCornerS_s2 z N q11 q12 q13 1 q18 (fun q28 => cond (decide (q28 < 0)) (k0 false) (cond (q28 != q17) (k0 false) (k0 true)))))))))))))))))) (fun q8 q9 q10 q11 q12 => w_toGrid z N aG_0 aG_1 aG_2 (fun q13 q14 => i_CornersOf z N aG_0 q13 q14 (fun q15 => w_eqCornerS_s3 z N q8 q9 q10 q12 (fun q16 => cond (!q16) (k0 false) (cond (q15 != q11) (k0 false) (w_markCornerS z N 1 (w_heldCornerS z N 1 (w_toGrid z N aG_0 aG_1 aG_2 (fun q17 q18 => i_CornersOf z N aG_0 q17 q18 (fun q19 => w_eqCornerS_s3 z N q8 q9 q10 q12 (fun q20 => cond (!q20) (k0 false) (cond (q19 != q11) (k0 false) (w_heldCornerS z N 1 (k0 true))))) (fun q19 q20 q21 q22 q23 => w_eqCornerS_s4 z N q19 q20 q21 q8 q9 q10 q23 q12 (fun q24 => cond (!q24) (k0 false) (cond (q22 != q11) (k0 false) (w_heldCornerS z N 1 (k0 true)))))))))))) (fun q15 q16 q17 q18 q19 => w_eqCornerS_s4 z N q15 q16 q17 q8 q9 q10 q19 q12 (fun q20 => cond (!q20) (k0 false) (cond (q18 != q11) (k0 false) (w_markCornerS_s2 z N q15 q16 q17 1 q19 (fun q21 q22 => w_heldCornerS_s2 z N q15 q16 q17 1 q22 (fun q23 => cond (decide (q23 < 0)) (k0 false) (cond (q23 != q21) (k0 false) (w_toGrid z N aG_0 aG_1 aG_2 (fun q24 q25 => i_CornersOf z N aG_0 q24 q25 (fun q26 => w_eqCornerS_s3 z N q8 q9 q10 q12 (fun q27 => cond (!q27) (k0 false) (cond (q26 != q11) (k0 false) (w_heldCornerS_s2 z N q15 q16 q17 1 q22 (fun q28 => cond (decide (q28 < 0)) (k0 false) (cond (q28 != q21) (k0 false) (k0 true))))))) (fun q26 q27 q28 q29 q30 => w_eqCornerS_s4 z N q26 q27 q28 q8 q9 q10 q30 q12 (fun q31 => cond (!q31) (k0 false) (cond (q29 != q11) (k0 false) (w_heldCornerS_s2 z N q15 q16 q17 1 q22 (fun q32 => cond (decide (q32 < 0)) (k0 false) (cond (q32 != q21) (k0 false) (k0 true)))))))))))))))))))
end Go.AM
