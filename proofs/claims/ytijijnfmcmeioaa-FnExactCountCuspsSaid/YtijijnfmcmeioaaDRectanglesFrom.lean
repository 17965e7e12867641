/- A part of a proof about the given program: an abstract machine, what the given functions come to, and plain laws. -/
import Derived.Test.YtijijnfmcmeioaaDLowerState
import Derived.Test.YtijijnfmcmeioaaDAlexanderNumber
import Derived.Test.YtijijnfmcmeioaaDIsMosaic
set_option maxRecDepth 100000
namespace Go.AM
/-- spec.l05Marks, loop -/
def s_l05Marks_l0_s {β : Type} (z : β) (n : Int) (left : Int) (bottom : Int) (width : Int) (height : Int) (h0 : Nat → Int) (count : Int) (k : Int) (kn : Int → Int → β) (k0 : Int → β) : β :=
  cond (decide (k < width)) (cond (fits IntKind.i64 (left + k)) (cond (!n == 0) (cond (decide (0 ≤ (left + k).tmod n) && decide ((left + k).tmod n < (↑8 : Int))) (cond (((left + k).tmod n).toNat.blt 8) (cond (fits IntKind.i64 (h0 ((left + k).tmod n).toNat - bottom)) (cond (fits IntKind.i64 (h0 ((left + k).tmod n).toNat - bottom + n)) (cond (!n == 0) (cond (decide ((h0 ((left + k).tmod n).toNat - bottom + n).tmod n < height)) (cond (fits IntKind.i64 (count + 1)) (cond (fits IntKind.i64 (k + 1)) (kn (count + 1) (k + 1)) (z)) (z)) (cond (fits IntKind.i64 (k + 1)) (kn count (k + 1)) (z))) (z)) (z)) (z)) (z)) (z)) (z)) (z)) (k0 count)
def s_l05Marks_l0 {β : Type} (z : β) (n : Int) (left : Int) (bottom : Int) (width : Int) (height : Int) (h0 : Nat → Int) : Nat → Int → Int → (Int → β) → β
  | 0, _, _, _ => z
  | m + 1, count, k, k0 => s_l05Marks_l0_s z n left bottom width height h0 count k (fun count k => s_l05Marks_l0 z n left bottom width height h0 m count k k0) k0

/-- spec.l05Marks -/
def s_l05Marks {β : Type} (z : β) (N : Nat) (n : Int) (marks : Nat → Int) (left : Int) (bottom : Int) (width : Int) (height : Int) (k0 : Int → β) : β :=
  s_l05Marks_l0 z n left bottom width height marks N 0 0 (fun q9 => k0 q9)

/-- spec.l05Rects, loop -/
def s_l05Rects_l1_s {β : Type} (z : β) (N : Nat) (t5 : Int) (t7 : Int) (h0_0 : Int) (h0_1 : Nat → Int) (h0_2 : Nat → Int) (h1 : Nat → Int) (t6_n : Nat) (t6_l : Nat) (t6_c : Nat) (t8 : Int) (h2 : List Int) (kn : Nat → Nat → Nat → Int → (List Int) → β) (k0 : Nat → Nat → Nat → (List Int) → β) : β :=
  cond (decide (t8 < t5)) (cond (decide (0 ≤ t7) && decide (t7 < (↑8 : Int))) (cond (t7.toNat.blt 8) (cond (fits IntKind.i64 (t7 + t8)) (cond (!t5 == 0) (cond (decide (0 ≤ (t7 + t8).tmod t5) && decide ((t7 + t8).tmod t5 < (↑8 : Int))) (cond (((t7 + t8).tmod t5).toNat.blt 8) (cond (fits IntKind.i64 (h1 ((t7 + t8).tmod t5).toNat - h1 t7.toNat)) (cond (fits IntKind.i64 (h1 ((t7 + t8).tmod t5).toNat - h1 t7.toNat + t5)) (cond (!t5 == 0) (s_l05Marks z N t5 h0_1 t7 (h1 t7.toNat) t8 ((h1 ((t7 + t8).tmod t5).toNat - h1 t7.toNat + t5).tmod t5) (fun q15 => s_l05Marks z N t5 h0_2 t7 (h1 t7.toNat) t8 ((h1 ((t7 + t8).tmod t5).toNat - h1 t7.toNat + t5).tmod t5) (fun q16 => cond (t6_n.beq h2.length && true) (cond ((t6_l + 1).ble 1099511627776 && ((t6_l + 1) * 48).ble 1099511627776) (cond ((t6_l + 1).ble t6_c) (cond (t6_n.beq h2.length && (0 + t6_l * 6 + 6).ble h2.length) (cond (fits IntKind.i64 (t8 + 1)) (kn t6_n (t6_l + 1) t6_c (t8 + 1) (List.take (0 + t6_l * 6) h2 ++ (List.map (upd (upd (upd (upd (upd (upd (fun (x : Nat) => 0) 0 t7) 1 (h1 t7.toNat)) 2 t8) 3 ((h1 ((t7 + t8).tmod t5).toNat - h1 t7.toNat + t5).tmod t5)) 4 q15) 5 q16) (List.range 6) ++ List.drop (0 + t6_l * 6 + 6) h2))) (z)) (z)) (cond ((t6_l * 6).beq h2.length) (cond (fits IntKind.i64 (t8 + 1)) (kn ((h2 ++ List.map (upd (upd (upd (upd (upd (upd (fun (x : Nat) => 0) 0 t7) 1 (h1 t7.toNat)) 2 t8) 3 ((h1 ((t7 + t8).tmod t5).toNat - h1 t7.toNat + t5).tmod t5)) 4 q15) 5 q16) (List.range 6)).length) (t6_l + 1) (t6_l + 1) (t8 + 1) (h2 ++ List.map (upd (upd (upd (upd (upd (upd (fun (x : Nat) => 0) 0 t7) 1 (h1 t7.toNat)) 2 t8) 3 ((h1 ((t7 + t8).tmod t5).toNat - h1 t7.toNat + t5).tmod t5)) 4 q15) 5 q16) (List.range 6))) (z)) (z))) (z)) (z)))) (z)) (z)) (z)) (z)) (z)) (z)) (z)) (z)) (z)) (k0 t6_n t6_l t6_c h2)
def s_l05Rects_l1 {β : Type} (z : β) (N : Nat) (t5 : Int) (t7 : Int) (h0_0 : Int) (h0_1 : Nat → Int) (h0_2 : Nat → Int) (h1 : Nat → Int) : Nat → Nat → Nat → Nat → Int → (List Int) → (Nat → Nat → Nat → (List Int) → β) → β
  | 0, _, _, _, _, _, _ => z
  | m + 1, t6_n, t6_l, t6_c, t8, h2, k0 => s_l05Rects_l1_s z N t5 t7 h0_0 h0_1 h0_2 h1 t6_n t6_l t6_c t8 h2 (fun t6_n t6_l t6_c t8 h2 => s_l05Rects_l1 z N t5 t7 h0_0 h0_1 h0_2 h1 m t6_n t6_l t6_c t8 h2 k0) k0

/-- spec.l05Rects, loop -/
def s_l05Rects_l0_s {β : Type} (z : β) (N : Nat) (t5 : Int) (h0_0 : Int) (h0_1 : Nat → Int) (h0_2 : Nat → Int) (h1 : Nat → Int) (t6_n : Nat) (t6_l : Nat) (t6_c : Nat) (t7 : Int) (h2 : List Int) (kn : Nat → Nat → Nat → Int → (List Int) → β) (k0 : Nat → Nat → Nat → (List Int) → β) : β :=
  cond (decide (t7 < t5)) (s_l05Rects_l1 z N t5 t7 h0_0 h0_1 h0_2 h1 N t6_n t6_l t6_c 1 h2 (fun q14 q15 q16 q17 => cond (fits IntKind.i64 (t7 + 1)) (kn q14 q15 q16 (t7 + 1) q17) (z))) (k0 t6_n t6_l t6_c h2)
def s_l05Rects_l0 {β : Type} (z : β) (N : Nat) (t5 : Int) (h0_0 : Int) (h0_1 : Nat → Int) (h0_2 : Nat → Int) (h1 : Nat → Int) : Nat → Nat → Nat → Nat → Int → (List Int) → (Nat → Nat → Nat → (List Int) → β) → β
  | 0, _, _, _, _, _, _ => z
  | m + 1, t6_n, t6_l, t6_c, t7, h2, k0 => s_l05Rects_l0_s z N t5 h0_0 h0_1 h0_2 h1 t6_n t6_l t6_c t7 h2 (fun t6_n t6_l t6_c t7 h2 => s_l05Rects_l0 z N t5 h0_0 h0_1 h0_2 h1 m t6_n t6_l t6_c t7 h2 k0) k0

/-- spec.l05Rects -/
def s_l05Rects {β : Type} (z : β) (N : Nat) (g_0 : Int) (g_1 : Nat → Int) (g_2 : Nat → Int) (a1 : Nat → Int) (k0 : Nat → Nat → Nat → (List Int) → β) : β :=
  s_l05Rects_l0 z N g_0 g_0 g_1 g_2 a1 N 0 0 0 0 (List.replicate 0 0) (fun q7 q8 q9 q10 => k0 q7 q8 q9 q10)

/-- spec.RectanglesFrom -/
def s_RectanglesFrom {β : Type} (z : β) (N : Nat) (g_0 : Int) (g_1 : Nat → Int) (g_2 : Nat → Int) (x : Nat → Int) (k0 : Int → β) (k1 : Nat → Nat → Nat → Int → (List Int) → β) : β :=
  s_l05Is z N g_0 g_1 g_2 x (fun q7 => cond (!q7) (k0 1) (s_l05Rects z N g_0 g_1 g_2 x (fun q8 q9 q10 q11 => k1 q8 q9 q10 0 q11)))

/-- (impl.Grid).rectangle$1 -/
def i_Grid_rectangle_1 {β : Type} (z : β) (N : Nat) (rows : Nat → Int) (k : Int) (h0 : Int) (h1 : Int) (h2 : Int) (k0 : Int → β) : β :=
  cond (fits IntKind.i64 (h0 + k)) (cond (!h1 == 0) (cond (decide (0 ≤ (h0 + k).tmod h1) && decide ((h0 + k).tmod h1 < (↑8 : Int))) (cond (((h0 + k).tmod h1).toNat.blt 8) (cond (fits IntKind.i64 (rows ((h0 + k).tmod h1).toNat - h2)) (cond (fits IntKind.i64 (rows ((h0 + k).tmod h1).toNat - h2 + h1)) (cond (!h1 == 0) (k0 ((rows ((h0 + k).tmod h1).toNat - h2 + h1).tmod h1)) (z)) (z)) (z)) (z)) (z)) (z)) (z)

/-- (impl.Grid).rectangle, loop -/
def i_Grid_rectangle_l0_s {β : Type} (z : β) (N : Nat) (t13 : Int) (t33 : Int) (h0_0 : Int) (h0_1 : Nat → Int) (h0_2 : Nat → Int) (h1 : Nat → Int) (h2 : Int) (h3 : Nat → Int) (h4 : Int) (h5 : Int) (t15 : Bool) (t34 : Int) (h6 : Nat → Int) (kn : Bool → Int → (Nat → Int) → β) (k0 : Bool → (Nat → Int) → β) : β :=
  cond (decide (t34 < t33)) (cond (decide (0 < t34)) (i_Grid_rectangle_1 z N h1 t34 h2 h4 h5 (fun q17 => cond (decide (q17 < t13)) (i_Grid_rectangle_1 z N h0_1 t34 h2 h4 h5 (fun q18 => cond (decide (q18 < t13)) (cond (fits IntKind.i64 (h6 4 + 1)) (i_Grid_rectangle_1 z N h0_2 t34 h2 h4 h5 (fun q19 => cond (decide (q19 < t13)) (cond (fits IntKind.i64 (upd h6 4 (h6 4 + 1) 5 + 1)) (cond (fits IntKind.i64 (t34 + 1)) (kn false (t34 + 1) (upd (upd h6 4 (h6 4 + 1)) 5 (upd h6 4 (h6 4 + 1) 5 + 1))) (z)) (z)) (cond (fits IntKind.i64 (t34 + 1)) (kn false (t34 + 1) (upd h6 4 (h6 4 + 1))) (z)))) (z)) (i_Grid_rectangle_1 z N h0_2 t34 h2 h4 h5 (fun q19 => cond (decide (q19 < t13)) (cond (fits IntKind.i64 (h6 5 + 1)) (cond (fits IntKind.i64 (t34 + 1)) (kn false (t34 + 1) (upd h6 5 (h6 5 + 1))) (z)) (z)) (cond (fits IntKind.i64 (t34 + 1)) (kn false (t34 + 1) h6) (z)))))) (i_Grid_rectangle_1 z N h0_1 t34 h2 h4 h5 (fun q18 => cond (decide (q18 < t13)) (cond (fits IntKind.i64 (h6 4 + 1)) (i_Grid_rectangle_1 z N h0_2 t34 h2 h4 h5 (fun q19 => cond (decide (q19 < t13)) (cond (fits IntKind.i64 (upd h6 4 (h6 4 + 1) 5 + 1)) (cond (fits IntKind.i64 (t34 + 1)) (kn t15 (t34 + 1) (upd (upd h6 4 (h6 4 + 1)) 5 (upd h6 4 (h6 4 + 1) 5 + 1))) (z)) (z)) (cond (fits IntKind.i64 (t34 + 1)) (kn t15 (t34 + 1) (upd h6 4 (h6 4 + 1))) (z)))) (z)) (i_Grid_rectangle_1 z N h0_2 t34 h2 h4 h5 (fun q19 => cond (decide (q19 < t13)) (cond (fits IntKind.i64 (h6 5 + 1)) (cond (fits IntKind.i64 (t34 + 1)) (kn t15 (t34 + 1) (upd h6 5 (h6 5 + 1))) (z)) (z)) (cond (fits IntKind.i64 (t34 + 1)) (kn t15 (t34 + 1) h6) (z)))))))) (i_Grid_rectangle_1 z N h0_1 t34 h2 h4 h5 (fun q17 => cond (decide (q17 < t13)) (cond (fits IntKind.i64 (h6 4 + 1)) (i_Grid_rectangle_1 z N h0_2 t34 h2 h4 h5 (fun q18 => cond (decide (q18 < t13)) (cond (fits IntKind.i64 (upd h6 4 (h6 4 + 1) 5 + 1)) (cond (fits IntKind.i64 (t34 + 1)) (kn t15 (t34 + 1) (upd (upd h6 4 (h6 4 + 1)) 5 (upd h6 4 (h6 4 + 1) 5 + 1))) (z)) (z)) (cond (fits IntKind.i64 (t34 + 1)) (kn t15 (t34 + 1) (upd h6 4 (h6 4 + 1))) (z)))) (z)) (i_Grid_rectangle_1 z N h0_2 t34 h2 h4 h5 (fun q18 => cond (decide (q18 < t13)) (cond (fits IntKind.i64 (h6 5 + 1)) (cond (fits IntKind.i64 (t34 + 1)) (kn t15 (t34 + 1) (upd h6 5 (h6 5 + 1))) (z)) (z)) (cond (fits IntKind.i64 (t34 + 1)) (kn t15 (t34 + 1) h6) (z))))))) (k0 t15 h6)
def i_Grid_rectangle_l0 {β : Type} (z : β) (N : Nat) (t13 : Int) (t33 : Int) (h0_0 : Int) (h0_1 : Nat → Int) (h0_2 : Nat → Int) (h1 : Nat → Int) (h2 : Int) (h3 : Nat → Int) (h4 : Int) (h5 : Int) : Nat → Bool → Int → (Nat → Int) → (Bool → (Nat → Int) → β) → β
  | 0, _, _, _, _ => z
  | m + 1, t15, t34, h6, k0 => i_Grid_rectangle_l0_s z N t13 t33 h0_0 h0_1 h0_2 h1 h2 h3 h4 h5 t15 t34 h6 (fun t15 t34 h6 => i_Grid_rectangle_l0 z N t13 t33 h0_0 h0_1 h0_2 h1 h2 h3 h4 h5 m t15 t34 h6 k0) k0

/-- (impl.Grid).rectangle -/
def i_Grid_rectangle {β : Type} (z : β) (N : Nat) (g_0 : Int) (g_1 : Nat → Int) (g_2 : Nat → Int) (a1 : Nat → Int) (a2 : Int) (a3 : Int) (k0 : (Nat → Int) → Bool → β) : β :=
  i_Grid_n z N g_0 g_1 g_2 (cond (decide (0 ≤ a2) && decide (a2 < (↑8 : Int))) (cond (a2.toNat.blt 8) (i_Grid_rectangle_1 z N a1 a3 a2 g_0 (a1 a2.toNat) (fun q9 => i_Grid_rectangle_l0 z N q9 a3 g_0 g_1 g_2 a1 a2 (fun (x : Nat) => 0) g_0 (a1 a2.toNat) N true 0 (upd (upd (upd (upd (upd (upd (fun (x : Nat) => 0) 0 a2) 1 (a1 a2.toNat)) 2 a3) 3 q9) 4 0) 5 0) (fun q10 q11 => k0 q11 q10))) (z)) (z))

/-- (impl.Grid).rectangles, loop -/
def i_Grid_rectangles_l1_s {β : Type} (z : β) (N : Nat) (emptyAlone : Bool) (left : Int) (t14 : Int) (t15 : Int) (h0_0 : Int) (h0_1 : Nat → Int) (h0_2 : Nat → Int) (h1 : Nat → Int) (out_n : Nat) (out_l : Nat) (out_c : Nat) (width : Int) (h2 : List Int) (kn : Nat → Nat → Nat → Int → (List Int) → β) (k0 : Nat → Nat → Nat → (List Int) → β) : β :=
  i_Grid_n z N h0_0 h0_1 h0_2 (cond (decide (width < h0_0)) (i_Grid_rectangle z N h0_0 h0_1 h0_2 h1 left width (fun q17 q18 => cond (q18) (cond (out_n.beq h2.length && true) (cond ((out_l + 1).ble 1099511627776 && ((out_l + 1) * 48).ble 1099511627776) (cond ((out_l + 1).ble out_c) (cond (out_n.beq h2.length && (0 + out_l * 6 + 6).ble h2.length) (cond (fits IntKind.i64 (width + 1)) (kn out_n (out_l + 1) out_c (width + 1) (List.take (0 + out_l * 6) h2 ++ (List.map q17 (List.range 6) ++ List.drop (0 + out_l * 6 + 6) h2))) (z)) (z)) (cond ((out_l * 6).beq h2.length) (cond (fits IntKind.i64 (width + 1)) (kn ((h2 ++ List.map q17 (List.range 6)).length) (out_l + 1) (out_l + 1) (width + 1) (h2 ++ List.map q17 (List.range 6))) (z)) (z))) (z)) (z)) (cond (!emptyAlone) (cond (out_n.beq h2.length && true) (cond ((out_l + 1).ble 1099511627776 && ((out_l + 1) * 48).ble 1099511627776) (cond ((out_l + 1).ble out_c) (cond (out_n.beq h2.length && (0 + out_l * 6 + 6).ble h2.length) (cond (fits IntKind.i64 (width + 1)) (kn out_n (out_l + 1) out_c (width + 1) (List.take (0 + out_l * 6) h2 ++ (List.map q17 (List.range 6) ++ List.drop (0 + out_l * 6 + 6) h2))) (z)) (z)) (cond ((out_l * 6).beq h2.length) (cond (fits IntKind.i64 (width + 1)) (kn ((h2 ++ List.map q17 (List.range 6)).length) (out_l + 1) (out_l + 1) (width + 1) (h2 ++ List.map q17 (List.range 6))) (z)) (z))) (z)) (z)) (cond (fits IntKind.i64 (width + 1)) (kn out_n out_l out_c (width + 1) h2) (z))))) (k0 out_n out_l out_c h2))
def i_Grid_rectangles_l1 {β : Type} (z : β) (N : Nat) (emptyAlone : Bool) (left : Int) (t14 : Int) (t15 : Int) (h0_0 : Int) (h0_1 : Nat → Int) (h0_2 : Nat → Int) (h1 : Nat → Int) : Nat → Nat → Nat → Nat → Int → (List Int) → (Nat → Nat → Nat → (List Int) → β) → β
  | 0, _, _, _, _, _, _ => z
  | m + 1, out_n, out_l, out_c, width, h2, k0 => i_Grid_rectangles_l1_s z N emptyAlone left t14 t15 h0_0 h0_1 h0_2 h1 out_n out_l out_c width h2 (fun out_n out_l out_c width h2 => i_Grid_rectangles_l1 z N emptyAlone left t14 t15 h0_0 h0_1 h0_2 h1 m out_n out_l out_c width h2 k0) k0

/-- (impl.Grid).rectangles, loop -/
def i_Grid_rectangles_l0_s {β : Type} (z : β) (N : Nat) (emptyAlone : Bool) (t14 : Int) (h0_0 : Int) (h0_1 : Nat → Int) (h0_2 : Nat → Int) (h1 : Nat → Int) (out_n : Nat) (out_l : Nat) (out_c : Nat) (t15 : Int) (h2 : List Int) (kn : Nat → Nat → Nat → Int → (List Int) → β) (k0 : Nat → Nat → Nat → (List Int) → β) : β :=
  cond (decide (t15 < t14)) (i_Grid_rectangles_l1 z N emptyAlone t15 t14 t15 h0_0 h0_1 h0_2 h1 N out_n out_l out_c 1 h2 (fun q15 q16 q17 q18 => cond (fits IntKind.i64 (t15 + 1)) (kn q15 q16 q17 (t15 + 1) q18) (z))) (k0 out_n out_l out_c h2)
def i_Grid_rectangles_l0 {β : Type} (z : β) (N : Nat) (emptyAlone : Bool) (t14 : Int) (h0_0 : Int) (h0_1 : Nat → Int) (h0_2 : Nat → Int) (h1 : Nat → Int) : Nat → Nat → Nat → Nat → Int → (List Int) → (Nat → Nat → Nat → (List Int) → β) → β
  | 0, _, _, _, _, _, _ => z
  | m + 1, out_n, out_l, out_c, t15, h2, k0 => i_Grid_rectangles_l0_s z N emptyAlone t14 h0_0 h0_1 h0_2 h1 out_n out_l out_c t15 h2 (fun out_n out_l out_c t15 h2 => i_Grid_rectangles_l0 z N emptyAlone t14 h0_0 h0_1 h0_2 h1 m out_n out_l out_c t15 h2 k0) k0

/-- (impl.Grid).rectangles -/
def i_Grid_rectangles {β : Type} (z : β) (N : Nat) (g_0 : Int) (g_1 : Nat → Int) (g_2 : Nat → Int) (x : Nat → Int) (emptyAlone : Bool) (k0 : Nat → Nat → Nat → (List Int) → β) : β :=
  i_Grid_n z N g_0 g_1 g_2 (i_Grid_rectangles_l0 z N emptyAlone g_0 g_0 g_1 g_2 x N 0 0 0 0 (List.replicate 0 0) (fun q8 q9 q10 q11 => k0 q8 q9 q10 q11))

/-- impl.RectanglesFrom$1 -/
def i_RectanglesFrom_1 {β : Type} (z : β) (N : Nat) (g_0 : Int) (g_1 : Nat → Int) (g_2 : Nat → Int) (x : Nat → Int) (k0 : Nat → Nat → Nat → (List Int) → β) : β :=
  i_Grid_rectangles z N g_0 g_1 g_2 x false (fun q7 q8 q9 q10 => k0 q7 q8 q9 q10)

/-- impl.stated[[]impl.Rectangle] -/
def i_stated_i_Rectangle {β : Type} (z : β) (N : Nat) (g_0 : Int) (g_1 : Nat → Int) (g_2 : Nat → Int) (x : Nat → Int) (k0 : Int → β) (k1 : Nat → Nat → Nat → Int → (List Int) → β) : β :=
  i_IsState z N g_0 g_1 g_2 x (fun q7 => cond (!q7) (k0 1) (i_RectanglesFrom_1 z N g_0 g_1 g_2 x (fun q8 q9 q10 q11 => k1 q8 q9 q10 0 q11)))

/-- impl.RectanglesFrom -/
def i_RectanglesFrom {β : Type} (z : β) (N : Nat) (g_0 : Int) (g_1 : Nat → Int) (g_2 : Nat → Int) (x : Nat → Int) (k0 : Int → β) (k1 : Nat → Nat → Nat → Int → (List Int) → β) : β :=
  i_stated_i_Rectangle z N g_0 g_1 g_2 x (fun q7 => k0 q7) (fun q7 q8 q9 q10 q11 => k1 q7 q8 q9 q10 q11)

/-- laws.eqRectangleS, loop -/
def w_eqRectangleS_l0_s {β : Type} (z : β) (i : Int)  (kn : β) (k0 : β) : β :=
  cond (decide (i < 0)) (z) (k0)
def w_eqRectangleS_l0 {β : Type} (z : β) (i : Int) : Nat → β → β
  | 0, _ => z
  | m + 1, k0 => w_eqRectangleS_l0_s z i (w_eqRectangleS_l0 z i m k0) k0

/-- laws.eqRectangleS -/
def w_eqRectangleS {β : Type} (z : β) (N : Nat)  (k0 : Bool → β) : β :=
  w_eqRectangleS_l0 z 0 N (k0 true)

/-- laws.markRectangleS, loop -/
def w_markRectangleS_l0_s {β : Type} (z : β) (k : Int) (i : Int)  (kn : β) (k0 : β) : β :=
  cond (decide (i < 0)) (z) (k0)
def w_markRectangleS_l0 {β : Type} (z : β) (k : Int) (i : Int) : Nat → β → β
  | 0, _ => z
  | m + 1, k0 => w_markRectangleS_l0_s z k i (w_markRectangleS_l0 z k i m k0) k0

/-- laws.markRectangleS -/
def w_markRectangleS {β : Type} (z : β) (N : Nat) (k : Int) (k0 : β) : β :=
  w_markRectangleS_l0 z k 0 N k0

/-- laws.heldRectangleS, loop -/
def w_heldRectangleS_l0_s {β : Type} (z : β) (t1 : Int) (t5 : Int)  (kn : β) (k0 : β) : β :=
  cond (decide (t5 < 0)) (z) (k0)
def w_heldRectangleS_l0 {β : Type} (z : β) (t1 : Int) (t5 : Int) : Nat → β → β
  | 0, _ => z
  | m + 1, k0 => w_heldRectangleS_l0_s z t1 t5 (w_heldRectangleS_l0 z t1 t5 m k0) k0

/-- laws.heldRectangleS -/
def w_heldRectangleS {β : Type} (z : β) (N : Nat) (a1 : Int) (k0 : β) : β :=
  w_heldRectangleS_l0 z a1 0 N k0

/-- laws.eqRectangleS, loop -/
def w_eqRectangleS_l0_s2_s {β : Type} (z : β) (a_n : Nat) (a_l : Nat) (a_c : Nat) (i : Int) (h0 : List Int)  (kn : β) (k0 : β) : β :=
  cond (a_l.ble 9223372036854775807) (cond (decide (i < (↑a_l : Int))) (cond (a_n.beq h0.length && (decide (0 ≤ i) && decide (i < (↑a_l : Int)))) (cond (a_n.beq h0.length && (i.toNat * 6 + 6).ble h0.length) (z) (z)) (z)) (k0)) (z)
def w_eqRectangleS_l0_s2 {β : Type} (z : β) (a_n : Nat) (a_l : Nat) (a_c : Nat) (i : Int) (h0 : List Int) : Nat → β → β
  | 0, _ => z
  | m + 1, k0 => w_eqRectangleS_l0_s2_s z a_n a_l a_c i h0 (w_eqRectangleS_l0_s2 z a_n a_l a_c i h0 m k0) k0

/-- laws.eqRectangleS -/
def w_eqRectangleS_s2 {β : Type} (z : β) (N : Nat) (a_n : Nat) (a_l : Nat) (a_c : Nat) (h0 : List Int) (k0 : Bool → β) : β :=
  cond (a_l.ble 9223372036854775807) (cond ((↑a_l : Int) != 0) (k0 false) (w_eqRectangleS_l0_s2 z a_n a_l a_c 0 h0 N (k0 true))) (z)

/-- laws.markRectangleS, loop -/
def w_markRectangleS_l0_s2_s {β : Type} (z : β) (a_n : Nat) (a_l : Nat) (a_c : Nat) (k : Int) (i : Int) (h0 : List Int) (kn : Int → Int → (List Int) → β) (k0 : Int → (List Int) → β) : β :=
  cond (a_l.ble 9223372036854775807) (cond (decide (i < (↑a_l : Int))) (cond (a_n.beq h0.length && (decide (0 ≤ i) && decide (i < (↑a_l : Int)))) (cond (a_n.beq h0.length && (addO (i.toNat * 6) 0).blt h0.length) (cond (fits IntKind.i64 (k + 1)) (cond (a_n.beq (h0.set (addO (i.toNat * 6) 0) k).length && (decide (0 ≤ i) && decide (i < (↑a_l : Int)))) (cond (a_n.beq (h0.set (addO (i.toNat * 6) 0) k).length && (addO (i.toNat * 6) 1).blt (h0.set (addO (i.toNat * 6) 0) k).length) (cond (fits IntKind.i64 (k + 1 + 1)) (cond (a_n.beq ((h0.set (addO (i.toNat * 6) 0) k).set (addO (i.toNat * 6) 1) (k + 1)).length && (decide (0 ≤ i) && decide (i < (↑a_l : Int)))) (cond (a_n.beq ((h0.set (addO (i.toNat * 6) 0) k).set (addO (i.toNat * 6) 1) (k + 1)).length && (addO (i.toNat * 6) 2).blt ((h0.set (addO (i.toNat * 6) 0) k).set (addO (i.toNat * 6) 1) (k + 1)).length) (cond (fits IntKind.i64 (k + 1 + 1 + 1)) (cond (a_n.beq (((h0.set (addO (i.toNat * 6) 0) k).set (addO (i.toNat * 6) 1) (k + 1)).set (addO (i.toNat * 6) 2) (k + 1 + 1)).length && (decide (0 ≤ i) && decide (i < (↑a_l : Int)))) (cond (a_n.beq (((h0.set (addO (i.toNat * 6) 0) k).set (addO (i.toNat * 6) 1) (k + 1)).set (addO (i.toNat * 6) 2) (k + 1 + 1)).length && (addO (i.toNat * 6) 3).blt (((h0.set (addO (i.toNat * 6) 0) k).set (addO (i.toNat * 6) 1) (k + 1)).set (addO (i.toNat * 6) 2) (k + 1 + 1)).length) (cond (fits IntKind.i64 (k + 1 + 1 + 1 + 1)) (cond (a_n.beq ((((h0.set (addO (i.toNat * 6) 0) k).set (addO (i.toNat * 6) 1) (k + 1)).set (addO (i.toNat * 6) 2) (k + 1 + 1)).set (addO (i.toNat * 6) 3) (k + 1 + 1 + 1)).length && (decide (0 ≤ i) && decide (i < (↑a_l : Int)))) (cond (a_n.beq ((((h0.set (addO (i.toNat * 6) 0) k).set (addO (i.toNat * 6) 1) (k + 1)).set (addO (i.toNat * 6) 2) (k + 1 + 1)).set (addO (i.toNat * 6) 3) (k + 1 + 1 + 1)).length && (addO (i.toNat * 6) 4).blt ((((h0.set (addO (i.toNat * 6) 0) k).set (addO (i.toNat * 6) 1) (k + 1)).set (addO (i.toNat * 6) 2) (k + 1 + 1)).set (addO (i.toNat * 6) 3) (k + 1 + 1 + 1)).length) (cond (fits IntKind.i64 (k + 1 + 1 + 1 + 1 + 1)) (cond (a_n.beq (((((h0.set (addO (i.toNat * 6) 0) k).set (addO (i.toNat * 6) 1) (k + 1)).set (addO (i.toNat * 6) 2) (k + 1 + 1)).set (addO (i.toNat * 6) 3) (k + 1 + 1 + 1)).set (addO (i.toNat * 6) 4) (k + 1 + 1 + 1 + 1)).length && (decide (0 ≤ i) && decide (i < (↑a_l : Int)))) (cond (a_n.beq (((((h0.set (addO (i.toNat * 6) 0) k).set (addO (i.toNat * 6) 1) (k + 1)).set (addO (i.toNat * 6) 2) (k + 1 + 1)).set (addO (i.toNat * 6) 3) (k + 1 + 1 + 1)).set (addO (i.toNat * 6) 4) (k + 1 + 1 + 1 + 1)).length && (addO (i.toNat * 6) 5).blt (((((h0.set (addO (i.toNat * 6) 0) k).set (addO (i.toNat * 6) 1) (k + 1)).set (addO (i.toNat * 6) 2) (k + 1 + 1)).set (addO (i.toNat * 6) 3) (k + 1 + 1 + 1)).set (addO (i.toNat * 6) 4) (k + 1 + 1 + 1 + 1)).length) (cond (fits IntKind.i64 (k + 1 + 1 + 1 + 1 + 1 + 1)) (cond (fits IntKind.i64 (i + 1)) (kn (k + 1 + 1 + 1 + 1 + 1 + 1) (i + 1) ((((((h0.set (addO (i.toNat * 6) 0) k).set (addO (i.toNat * 6) 1) (k + 1)).set (addO (i.toNat * 6) 2) (k + 1 + 1)).set (addO (i.toNat * 6) 3) (k + 1 + 1 + 1)).set (addO (i.toNat * 6) 4) (k + 1 + 1 + 1 + 1)).set (addO (i.toNat * 6) 5) (k + 1 + 1 + 1 + 1 + 1))) (z)) (z)) (z)) (z)) (z)) (z)) (z)) (z)) (z)) (z)) (z)) (z)) (z)) (z)) (z)) (z)) (z)) (z)) (z)) (k0 k h0)) (z)
def w_markRectangleS_l0_s2 {β : Type} (z : β) (a_n : Nat) (a_l : Nat) (a_c : Nat) : Nat → Int → Int → (List Int) → (Int → (List Int) → β) → β
  | 0, _, _, _, _ => z
  | m + 1, k, i, h0, k0 => w_markRectangleS_l0_s2_s z a_n a_l a_c k i h0 (fun k i h0 => w_markRectangleS_l0_s2 z a_n a_l a_c m k i h0 k0) k0

/-- laws.markRectangleS -/
def w_markRectangleS_s2 {β : Type} (z : β) (N : Nat) (a_n : Nat) (a_l : Nat) (a_c : Nat) (k : Int) (h0 : List Int) (k0 : Int → (List Int) → β) : β :=
  w_markRectangleS_l0_s2 z a_n a_l a_c N k 0 h0 (fun q8 q9 => k0 q8 q9)

/-- laws.heldRectangleS, loop -/
def w_heldRectangleS_l0_s2_s {β : Type} (z : β) (a_n : Nat) (a_l : Nat) (a_c : Nat) (h0 : List Int) (t1 : Int) (t5 : Int) (kn : Int → Int → β) (k0 : β) (k1 : Int → β) : β :=
  cond (a_l.ble 9223372036854775807) (cond (decide (t5 < (↑a_l : Int))) (cond (a_n.beq h0.length && (decide (0 ≤ t5) && decide (t5 < (↑a_l : Int)))) (cond (a_n.beq h0.length && (addO (t5.toNat * 6) 0).blt h0.length) (cond (h0[addO (t5.toNat * 6) 0]?.getD 0 != t1) (k0) (cond (fits IntKind.i64 (t1 + 1)) (cond (a_n.beq h0.length && (decide (0 ≤ t5) && decide (t5 < (↑a_l : Int)))) (cond (a_n.beq h0.length && (addO (t5.toNat * 6) 1).blt h0.length) (cond (h0[addO (t5.toNat * 6) 1]?.getD 0 != t1 + 1) (k0) (cond (fits IntKind.i64 (t1 + 1 + 1)) (cond (a_n.beq h0.length && (decide (0 ≤ t5) && decide (t5 < (↑a_l : Int)))) (cond (a_n.beq h0.length && (addO (t5.toNat * 6) 2).blt h0.length) (cond (h0[addO (t5.toNat * 6) 2]?.getD 0 != t1 + 1 + 1) (k0) (cond (fits IntKind.i64 (t1 + 1 + 1 + 1)) (cond (a_n.beq h0.length && (decide (0 ≤ t5) && decide (t5 < (↑a_l : Int)))) (cond (a_n.beq h0.length && (addO (t5.toNat * 6) 3).blt h0.length) (cond (h0[addO (t5.toNat * 6) 3]?.getD 0 != t1 + 1 + 1 + 1) (k0) (cond (fits IntKind.i64 (t1 + 1 + 1 + 1 + 1)) (cond (a_n.beq h0.length && (decide (0 ≤ t5) && decide (t5 < (↑a_l : Int)))) (cond (a_n.beq h0.length && (addO (t5.toNat * 6) 4).blt h0.length) (cond (h0[addO (t5.toNat * 6) 4]?.getD 0 != t1 + 1 + 1 + 1 + 1) (k0) (cond (fits IntKind.i64 (t1 + 1 + 1 + 1 + 1 + 1)) (cond (a_n.beq h0.length && (decide (0 ≤ t5) && decide (t5 < (↑a_l : Int)))) (cond (a_n.beq h0.length && (addO (t5.toNat * 6) 5).blt h0.length) (cond (h0[addO (t5.toNat * 6) 5]?.getD 0 != t1 + 1 + 1 + 1 + 1 + 1) (k0) (cond (fits IntKind.i64 (t1 + 1 + 1 + 1 + 1 + 1 + 1)) (cond (fits IntKind.i64 (t5 + 1)) (kn (t1 + 1 + 1 + 1 + 1 + 1 + 1) (t5 + 1)) (z)) (z))) (z)) (z)) (z))) (z)) (z)) (z))) (z)) (z)) (z))) (z)) (z)) (z))) (z)) (z)) (z))) (z)) (z)) (k1 t1)) (z)
def w_heldRectangleS_l0_s2 {β : Type} (z : β) (a_n : Nat) (a_l : Nat) (a_c : Nat) (h0 : List Int) : Nat → Int → Int → β → (Int → β) → β
  | 0, _, _, _, _ => z
  | m + 1, t1, t5, k0, k1 => w_heldRectangleS_l0_s2_s z a_n a_l a_c h0 t1 t5 (fun t1 t5 => w_heldRectangleS_l0_s2 z a_n a_l a_c h0 m t1 t5 k0 k1) k0 k1

/-- laws.heldRectangleS -/
def w_heldRectangleS_s2 {β : Type} (z : β) (N : Nat) (a_n : Nat) (a_l : Nat) (a_c : Nat) (a1 : Int) (h0 : List Int) (k0 : Int → β) : β :=
  w_heldRectangleS_l0_s2 z a_n a_l a_c h0 N a1 0 (k0 (-1)) (fun q8 => k0 q8)

/-- laws.eqRectangleS, loop -/
def w_eqRectangleS_l0_s3_s {β : Type} (z : β) (b_n : Nat) (b_l : Nat) (b_c : Nat) (i : Int) (h0 : List Int)  (kn : β) (k0 : β) : β :=
  cond (decide (i < 0)) (z) (k0)
def w_eqRectangleS_l0_s3 {β : Type} (z : β) (b_n : Nat) (b_l : Nat) (b_c : Nat) (i : Int) (h0 : List Int) : Nat → β → β
  | 0, _ => z
  | m + 1, k0 => w_eqRectangleS_l0_s3_s z b_n b_l b_c i h0 (w_eqRectangleS_l0_s3 z b_n b_l b_c i h0 m k0) k0

/-- laws.eqRectangleS -/
def w_eqRectangleS_s3 {β : Type} (z : β) (N : Nat) (b_n : Nat) (b_l : Nat) (b_c : Nat) (h0 : List Int) (k0 : Bool → β) : β :=
  cond (b_l.ble 9223372036854775807) (cond (0 != (↑b_l : Int)) (k0 false) (w_eqRectangleS_l0_s3 z b_n b_l b_c 0 h0 N (k0 true))) (z)

/-- laws.eqRectangle -/
def w_eqRectangle {β : Type} (z : β) (N : Nat) (a : Nat → Int) (b : Nat → Int) (k0 : Bool → β) : β :=
  cond (a 0 != b 0) (k0 false) (cond (a 1 != b 1) (k0 false) (cond (a 2 != b 2) (k0 false) (cond (a 3 != b 3) (k0 false) (cond (a 4 != b 4) (k0 false) (cond (a 5 != b 5) (k0 false) (k0 true))))))

/-- laws.eqRectangleS, loop -/
def w_eqRectangleS_l0_s4_s {β : Type} (z : β) (N : Nat) (a_n : Nat) (a_l : Nat) (a_c : Nat) (b_n : Nat) (b_l : Nat) (b_c : Nat) (h0 : List Int) (h1 : List Int) (i : Int) (kn : Int → β) (k0 : β) (k1 : β) : β :=
  cond (a_l.ble 9223372036854775807) (cond (decide (i < (↑a_l : Int))) (cond (a_n.beq h0.length && (decide (0 ≤ i) && decide (i < (↑a_l : Int)))) (cond (a_n.beq h0.length && (i.toNat * 6 + 6).ble h0.length) (cond (b_n.beq h1.length && (decide (0 ≤ i) && decide (i < (↑b_l : Int)))) (cond (b_n.beq h1.length && (i.toNat * 6 + 6).ble h1.length) (w_eqRectangle z N (fun (j : Nat) => h0[addO (i.toNat * 6) j]?.getD 0) (fun (j : Nat) => h1[addO (i.toNat * 6) j]?.getD 0) (fun q13 => cond (!q13) (k0) (cond (fits IntKind.i64 (i + 1)) (kn (i + 1)) (z)))) (z)) (z)) (z)) (z)) (k1)) (z)
def w_eqRectangleS_l0_s4 {β : Type} (z : β) (N : Nat) (a_n : Nat) (a_l : Nat) (a_c : Nat) (b_n : Nat) (b_l : Nat) (b_c : Nat) (h0 : List Int) (h1 : List Int) : Nat → Int → β → β → β
  | 0, _, _, _ => z
  | m + 1, i, k0, k1 => w_eqRectangleS_l0_s4_s z N a_n a_l a_c b_n b_l b_c h0 h1 i (fun i => w_eqRectangleS_l0_s4 z N a_n a_l a_c b_n b_l b_c h0 h1 m i k0 k1) k0 k1

/-- laws.eqRectangleS -/
def w_eqRectangleS_s4 {β : Type} (z : β) (N : Nat) (a_n : Nat) (a_l : Nat) (a_c : Nat) (b_n : Nat) (b_l : Nat) (b_c : Nat) (h0 : List Int) (h1 : List Int) (k0 : Bool → β) : β :=
  cond (a_l.ble 9223372036854775807) (cond (b_l.ble 9223372036854775807) (cond ((↑a_l : Int) != (↑b_l : Int)) (k0 false) (w_eqRectangleS_l0_s4 z N a_n a_l a_c b_n b_l b_c h0 h1 N 0 (k0 false) (k0 true))) (z)) (z)

/-- laws.FnExactRectanglesFrom -/
def w_FnExactRectanglesFrom {β : Type} (z : β) (N : Nat) (aG_0 : Int) (aG_1 : Nat → Int) (aG_2 : Nat → Int) (a1 : Nat → Int) (k0 : Bool → β) : β :=
  w_toGrid z N aG_0 aG_1 aG_2 (fun q7 q8 => w_toState z N a1 (fun q9 => s_RectanglesFrom z N aG_0 q7 q8 q9 (fun q10 => w_toGrid z N aG_0 aG_1 aG_2 (fun q11 q12 => w_toState z N a1 (fun q13 => i_RectanglesFrom z N aG_0 q11 q12 q13 (fun q14 => w_eqRectangleS z N (fun q15 => cond (!q15) (k0 false) (cond (q14 != q10) (k0 false) (w_markRectangleS z N 1 (w_heldRectangleS z N 1 (w_toGrid z N aG_0 aG_1 aG_2 (fun q16 q17 => w_toState z N a1 (fun q18 => i_RectanglesFrom z N aG_0 q16 q17 q18 (fun q19 => w_eqRectangleS z N (fun q20 => cond (!q20) (k0 false) (cond (q19 != q10) (k0 false) (w_heldRectangleS z N 1 (k0 true))))) (fun q19 q20 q21 q22 q23 => w_eqRectangleS_s2 z N q19 q20 q21 q23 (fun q24 => cond (!q24) (k0 false) (cond (q22 != q10) (k0 false) (w_heldRectangleS z N 1 (k0 true))))))))))))) (fun q14 q15 q16 q17 q18 => w_eqRectangleS_s2 z N q14 q15 q16 q18 (fun q19 => cond (!q19) (k0 false) (cond (q17 != q10) (k0 false) (w_markRectangleS_s2 z N q14 q15 q16 1 q18 (fun q20 q21 => w_heldRectangleS_s2 z N q14 q15 q16 1 q21 (fun q22 => cond (decide (q22 < 0)) (k0 false) (cond (q22 != q20) (k0 false) (w_toGrid z N aG_0 aG_1 aG_2 (fun q23 q24 => w_toState z N a1 (fun q25 => i_RectanglesFrom z N aG_0 q23 q24 q25 (fun q26 => w_eqRectangleS z N (fun q27 => cond (!q27) (k0 false) (cond (q26 != q10) (k0 false) (w_heldRectangleS_s2 z N q14 q15 q16 1 q21 (fun q28 => cond (decide (q28 < 0)) (k0 false) (cond (q28 != q20) (k0 false) (k0 true))))))) (fun q26 q27 q28 q29 q30 => w_eqRectangleS_s2 z N q26 q27 q28 q30 (fun q31 => cond (!q31) (k0 false) (cond (q29 != q10) (k0 false) (w_heldRectangleS_s2 z N q14 q15 q16 1 q21 (fun q32 => cond (decide (q32 < 0)) (k0 false) (cond (q32 != q20) (k0 false) (k0 true)))))))))))))))))))) (fun q10 q11 q12 q13 q14 => w_toGrid z N aG_0 aG_1 aG_2 (fun q15 q16 => w_toState z N a1 (fun q17 => i_RectanglesFrom z N aG_0 q15 q16 q17 (fun q18 => w_eqRectangleS_s3 z N q10 q11 q12 q14 (fun q19 => cond (!q19) (k0 false) (cond (q18 != q13) (k0 false) (w_markRectangleS z N 1 (w_heldRectangleS z N 1 (w_toGrid z N aG_0 aG_1 aG_2 (fun q20 q21 => w_toState z N a1 (fun q22 => i_RectanglesFrom z N aG_0 q20 q21 q22 (fun q23 => w_eqRectangleS_s3 z N q10 q11 q12 q14 (fun q24 => cond (!q24) (k0 false) (cond (q23 != q13) (k0 false) (w_heldRectangleS z N 1 (k0 true))))) (fun q23 q24 q25 q26 q27 => w_eqRectangleS_s4 z N q23 q24 q25 q10 q11 q12 q27 q14 (fun q28 => cond (!q28) (k0 false) (cond (q26 != q13) (k0 false) (w_heldRectangleS z N 1 (k0 true))))))))))))) (fun q18 q19 q20 q21 q22 => w_eqRectangleS_s4 z N q18 q19 q20 q10 q11 q12 q22 q14 (fun q23 => cond (!q23) (k0 false) (cond (q21 != q13) (k0 false) (w_markRectangleS_s2 z N q18 q19 q20 1 q22 (fun q24 q25 => w_heldRectangleS_s2 z N q18 q19 q20 1 q25 (fun q26 => cond (decide (q26 < 0)) (k0 false) (cond (q26 != q24) (k0 false) (w_toGrid z N aG_0 aG_1 aG_2 (fun q27 q28 => w_toState z N a1 (fun q29 => i_RectanglesFrom z N aG_0 q27 q28 q29 (fun q30 => w_eqRectangleS_s3 z N q10 q11 q12 q14 (fun q31 => cond (!q31) (k0 false) (cond (q30 != q13) (k0 false) (w_heldRectangleS_s2 z N q18 q19 q20 1 q25 (fun q32 => cond (decide (q32 < 0)) (k0 false) (cond (q32 != q24) (k0 false) (k0 true))))))) (fun q30 q31 q32 q33 q34 => w_eqRectangleS_s4 z N q30 q31 q32 q10 q11 q12 q34 q14 (fun q35 => cond (!q35) (k0 false) (cond (q33 != q13) (k0 false) (w_heldRectangleS_s2 z N q18 q19 q20 1 q25 (fun q36 => cond (decide (q36 < 0)) (k0 false) (cond (q36 != q24) (k0 false) (k0 true))))))))))))))))))))))
end Go.AM
