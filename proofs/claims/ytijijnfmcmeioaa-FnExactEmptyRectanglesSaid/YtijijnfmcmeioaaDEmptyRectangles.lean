/- A part of a proof about the given program: an abstract machine, what the given functions come to, and plain laws. -/
import Derived.Test.YtijijnfmcmeioaaDLowerState
import Derived.Test.YtijijnfmcmeioaaDAlexanderNumber
import Derived.Test.YtijijnfmcmeioaaDIsMosaic
import Derived.Test.YtijijnfmcmeioaaDRectanglesFrom
set_option maxRecDepth 100000
namespace Go.AM
/-- spec.l05Inside, loop -/
def s_l05Inside_l0_s {β : Type} (z : β) (N : Nat) (n : Int) (h0 : Nat → Int) (h1 : Nat → Int) (count : Int) (k : Int) (kn : Int → Int → β) (k0 : Int → β) : β :=
  cond (decide (k < h1 2)) (cond (fits IntKind.i64 (h1 0 + k)) (cond (!n == 0) (cond (decide (0 ≤ (h1 0 + k).tmod n) && decide ((h1 0 + k).tmod n < (↑8 : Int))) (cond (((h1 0 + k).tmod n).toNat.blt 8) (cond (fits IntKind.i64 (h0 ((h1 0 + k).tmod n).toNat - h1 1)) (cond (fits IntKind.i64 (h0 ((h1 0 + k).tmod n).toNat - h1 1 + n)) (cond (!n == 0) (cond (fits IntKind.i64 (h1 3 - 1)) (s_l01In z N ((h0 ((h1 0 + k).tmod n).toNat - h1 1 + n).tmod n) 1 (h1 3 - 1) (fun q9 => cond (q9) (cond (fits IntKind.i64 (count + 1)) (cond (fits IntKind.i64 (k + 1)) (kn (count + 1) (k + 1)) (z)) (z)) (cond (fits IntKind.i64 (k + 1)) (kn count (k + 1)) (z)))) (z)) (z)) (z)) (z)) (z)) (z)) (z)) (z)) (k0 count)
def s_l05Inside_l0 {β : Type} (z : β) (N : Nat) (n : Int) (h0 : Nat → Int) (h1 : Nat → Int) : Nat → Int → Int → (Int → β) → β
  | 0, _, _, _ => z
  | m + 1, count, k, k0 => s_l05Inside_l0_s z N n h0 h1 count k (fun count k => s_l05Inside_l0 z N n h0 h1 m count k k0) k0

/-- spec.l05Inside -/
def s_l05Inside {β : Type} (z : β) (N : Nat) (n : Int) (x : Nat → Int) (r_ : Nat → Int) (k0 : Int → β) : β :=
  s_l05Inside_l0 z N n x r_ N 0 1 (fun q6 => k0 q6)

/-- spec.l05Empty, loop -/
def s_l05Empty_l0_s {β : Type} (z : β) (N : Nat) (list_n : Nat) (list_l : Nat) (list_c : Nat) (h0_0 : Int) (h0_1 : Nat → Int) (h0_2 : Nat → Int) (h1 : Nat → Int) (h2 : List Int) (out_n : Nat) (out_l : Nat) (out_c : Nat) (i : Int) (h3 : List Int) (kn : Nat → Nat → Nat → Int → (List Int) → β) (k0 : Nat → Nat → Nat → (List Int) → β) : β :=
  cond (list_l.ble 1099511627776) (cond (decide (i < (↑list_l : Int))) (cond (list_n.beq h2.length && (decide (0 ≤ i) && decide (i < (↑list_l : Int)))) (cond (list_n.beq h2.length && (i.toNat * 6 + 6).ble h2.length) (s_l05Inside z N h0_0 h1 (fun (j : Nat) => h2[addO (i.toNat * 6) j]?.getD 0) (fun q17 => cond (q17 == 0) (cond (list_n.beq h2.length && (decide (0 ≤ i) && decide (i < (↑list_l : Int)))) (cond (list_n.beq h2.length && (i.toNat * 6 + 6).ble h2.length) (cond (out_n.beq h3.length && true) (cond ((out_l + 1).ble 1099511627776 && ((out_l + 1) * 48).ble 1099511627776) (cond ((out_l + 1).ble out_c) (cond (out_n.beq h3.length && (0 + out_l * 6 + 6).ble h3.length) (cond (fits IntKind.i64 (i + 1)) (kn out_n (out_l + 1) out_c (i + 1) (List.take (0 + out_l * 6) h3 ++ (List.map (fun (j : Nat) => h2[addO (i.toNat * 6) j]?.getD 0) (List.range 6) ++ List.drop (0 + out_l * 6 + 6) h3))) (z)) (z)) (cond ((out_l * 6).beq h3.length) (cond (fits IntKind.i64 (i + 1)) (kn ((h3 ++ List.map (fun (j : Nat) => h2[addO (i.toNat * 6) j]?.getD 0) (List.range 6)).length) (out_l + 1) (out_l + 1) (i + 1) (h3 ++ List.map (fun (j : Nat) => h2[addO (i.toNat * 6) j]?.getD 0) (List.range 6))) (z)) (z))) (z)) (z)) (z)) (z)) (cond (fits IntKind.i64 (i + 1)) (kn out_n out_l out_c (i + 1) h3) (z)))) (z)) (z)) (k0 out_n out_l out_c h3)) (z)
def s_l05Empty_l0 {β : Type} (z : β) (N : Nat) (list_n : Nat) (list_l : Nat) (list_c : Nat) (h0_0 : Int) (h0_1 : Nat → Int) (h0_2 : Nat → Int) (h1 : Nat → Int) (h2 : List Int) : Nat → Nat → Nat → Nat → Int → (List Int) → (Nat → Nat → Nat → (List Int) → β) → β
  | 0, _, _, _, _, _, _ => z
  | m + 1, out_n, out_l, out_c, i, h3, k0 => s_l05Empty_l0_s z N list_n list_l list_c h0_0 h0_1 h0_2 h1 h2 out_n out_l out_c i h3 (fun out_n out_l out_c i h3 => s_l05Empty_l0 z N list_n list_l list_c h0_0 h0_1 h0_2 h1 h2 m out_n out_l out_c i h3 k0) k0

/-- spec.l05Empty -/
def s_l05Empty {β : Type} (z : β) (N : Nat) (g_0 : Int) (g_1 : Nat → Int) (g_2 : Nat → Int) (x : Nat → Int) (k0 : Nat → Nat → Nat → (List Int) → β) : β :=
  s_l05Rects z N g_0 g_1 g_2 x (fun q7 q8 q9 q10 => s_l05Empty_l0 z N q7 q8 q9 g_0 g_1 g_2 x q10 N 0 0 0 0 (List.replicate 0 0) (fun q11 q12 q13 q14 => k0 q11 q12 q13 q14))

/-- spec.EmptyRectangles -/
def s_EmptyRectangles {β : Type} (z : β) (N : Nat) (g_0 : Int) (g_1 : Nat → Int) (g_2 : Nat → Int) (x : Nat → Int) (k0 : Int → β) (k1 : Nat → Nat → Nat → Int → (List Int) → β) : β :=
  s_l05Is z N g_0 g_1 g_2 x (fun q7 => cond (!q7) (k0 1) (s_l05Empty z N g_0 g_1 g_2 x (fun q8 q9 q10 q11 => k1 q8 q9 q10 0 q11)))

/-- impl.EmptyRectangles$1 -/
def i_EmptyRectangles_1 {β : Type} (z : β) (N : Nat) (g_0 : Int) (g_1 : Nat → Int) (g_2 : Nat → Int) (x : Nat → Int) (k0 : Nat → Nat → Nat → (List Int) → β) : β :=
  i_Grid_rectangles z N g_0 g_1 g_2 x true (fun q7 q8 q9 q10 => k0 q7 q8 q9 q10)

/-- impl.stated[[]impl.Rectangle] -/
def i_stated_i_Rectangle_s2 {β : Type} (z : β) (N : Nat) (g_0 : Int) (g_1 : Nat → Int) (g_2 : Nat → Int) (x : Nat → Int) (k0 : Int → β) (k1 : Nat → Nat → Nat → Int → (List Int) → β) : β :=
  i_IsState z N g_0 g_1 g_2 x (fun q7 => cond (!q7) (k0 1) (i_EmptyRectangles_1 z N g_0 g_1 g_2 x (fun q8 q9 q10 q11 => k1 q8 q9 q10 0 q11)))

/-- impl.EmptyRectangles -/
def i_EmptyRectangles {β : Type} (z : β) (N : Nat) (g_0 : Int) (g_1 : Nat → Int) (g_2 : Nat → Int) (x : Nat → Int) (k0 : Int → β) (k1 : Nat → Nat → Nat → Int → (List Int) → β) : β :=
  i_stated_i_Rectangle_s2 z N g_0 g_1 g_2 x (fun q7 => k0 q7) (fun q7 q8 q9 q10 q11 => k1 q7 q8 q9 q10 q11)

/-- laws.FnExactEmptyRectangles -/
def w_FnExactEmptyRectangles {β : Type} (z : β) (N : Nat) (aG_0 : Int) (aG_1 : Nat → Int) (aG_2 : Nat → Int) (a1 : Nat → Int) (k0 : Bool → β) : β :=
  w_toGrid z N aG_0 aG_1 aG_2 (fun q7 q8 => w_toState z N a1 (fun q9 => s_EmptyRectangles z N aG_0 q7 q8 q9 (fun q10 => w_toGrid z N aG_0 aG_1 aG_2 (fun q11 q12 => w_toState z N a1 (fun q13 => i_EmptyRectangles z N aG_0 q11 q12 q13 (fun q14 => w_eqRectangleS z N (fun q15 => cond (!q15) (k0 false) (cond (q14 != q10) (k0 false) (w_markRectangleS z N 1 (w_heldRectangleS z N 1 (w_toGrid z N aG_0 aG_1 aG_2 (fun q16 q17 => w_toState z N a1 (fun q18 => i_EmptyRectangles z N aG_0 q16 q17 q18 (fun q19 => w_eqRectangleS z N (fun q20 => cond (!q20) (k0 false) (cond (q19 != q10) (k0 false) (w_heldRectangleS z N 1 (k0 true))))) (fun q19 q20 q21 q22 q23 => w_eqRectangleS_s2 z N q19 q20 q21 q23 (fun q24 => cond (!q24) (k0 false) (cond (q22 != q10) (k0 false) (w_heldRectangleS z N 1 (k0 true))))))))))))) (fun q14 q15 q16 q17 q18 => w_eqRectangleS_s2 z N q14 q15 q16 q18 (fun q19 => cond (!q19) (k0 false) (cond (q17 != q10) (k0 false) (w_markRectangleS_s2 z N q14 q15 q16 1 q18 (fun q20 q21 => w_heldRectangleS_s2 z N q14 q15 q16 1 q21 (fun q22 => cond (decide (q22 < 0)) (k0 false) (cond (q22 != q20) (k0 false) (w_toGrid z N aG_0 aG_1 aG_2 (fun q23 q24 => w_toState z N a1 (fun q25 => i_EmptyRectangles z N aG_0 q23 q24 q25 (fun q26 => w_eqRectangleS z N (fun q27 => cond (!q27) (k0 false) (cond (q26 != q10) (k0 false) (w_heldRectangleS_s2 z N q14 q15 q16 1 q21 (fun q28 => cond (decide (q28 < 0)) (k0 false) (cond (q28 != q20) (k0 false) (k0 true))))))) (fun q26 q27 q28 q29 q30 => w_eqRectangleS_s2 z N q26 q27 q28 q30 (fun q31 => cond (!q31) (k0 false) (cond (q29 != q10) (k0 false) (w_heldRectangleS_s2 z N q14 q15 q16 1 q21 (fun q32 => cond (decide (q32 < 0)) (k0 false) (cond (q32 != q20) (k0 false) (k0 true)))))))))))))))))))) (fun q10 q11 q12 q13 q14 => w_toGrid z N aG_0 aG_1 aG_2 (fun q15 q16 => w_toState z N a1 (fun q17 => i_EmptyRectangles z N aG_0 q15 q16 q17 (fun q18 => w_eqRectangleS_s3 z N q10 q11 q12 q14 (fun q19 => cond (!q19) (k0 false) (cond (q18 != q13) (k0 false) (w_markRectangleS z N 1 (w_heldRectangleS z N 1 (w_toGrid z N aG_0 aG_1 aG_2 (fun q20 q21 => w_toState z N a1 (fun q22 => i_EmptyRectangles z N aG_0 q20 q21 q22 (fun q23 => w_eqRectangleS_s3 z N q10 q11 q12 q14 (fun q24 => cond (!q24) (k0 false) (cond (q23 != q13) (k0 false) (w_heldRectangleS z N 1 (k0 true))))) (fun q23 q24 q25 q26 q27 => w_eqRectangleS_s4 z N q23 q24 q25 q10 q11 q12 q27 q14 (fun q28 => cond (!q28) (k0 false) (cond (q26 != q13) (k0 false) (w_heldRectangleS z N 1 (k0 true))))))))))))) (fun q18 q19 q20 q21 q22 => w_eqRectangleS_s4 z N q18 q19 q20 q10 q11 q12 q22 q14 (fun q23 => cond (!q23) (k0 false) (cond (q21 != q13) (k0 false) (w_markRectangleS_s2 z N q18 q19 q20 1 q22 (fun q24 q25 => w_heldRectangleS_s2 z N q18 q19 q20 1 q25 (fun q26 => cond (decide (q26 < 0)) (k0 false) (cond (q26 != q24) (k0 false) (w_toGrid z N aG_0 aG_1 aG_2 (fun q27 q28 => w_toState z N a1 (fun q29 => i_EmptyRectangles z N aG_0 q27 q28 q29 (fun q30 => w_eqRectangleS_s3 z N q10 q11 q12 q14 (fun q31 => cond (!q31) (k0 false) (cond (q30 != q13) (k0 false) (w_heldRectangleS_s2 z N q18 q19 q20 1 q25 (fun q32 => cond (decide (q32 < 0)) (k0 false) (cond (q32 != q24) (k0 false) (k0 true))))))) (fun q30 q31 q32 q33 q34 => w_eqRectangleS_s4 z N q30 q31 q32 q10 q11 q12 q34 q14 (fun q35 => cond (!q35) (k0 false) (cond (q33 != q13) (k0 false) (w_heldRectangleS_s2 z N q18 q19 q20 1 q25 (fun q36 => cond (decide (q36 < 0)) (k0 false) (cond (q36 != q24) (k0 false) (k0 true))))))))))))))))))))))
end Go.AM
