/- A part of a proof about the given program: an abstract machine, what the given functions come to, and plain laws. -/
import Derived.Test.YtijijnfmcmeioaaDLowerState
import Derived.Test.YtijijnfmcmeioaaDAlexanderNumber
import Derived.Test.YtijijnfmcmeioaaDIsMosaic
import Derived.Test.YtijijnfmcmeioaaDRectanglesFrom
set_option maxRecDepth 100000
namespace Go.AM
/-- laws.toRectangle -/
def w_toRectangle {β : Type} (z : β) (N : Nat) (a : Nat → Int) (k0 : (Nat → Int) → β) : β :=
  k0 (upd (upd (upd (upd (upd (upd (fun (x : Nat) => 0) 0 (a 0)) 1 (a 1)) 2 (a 2)) 3 (a 3)) 4 (a 4)) 5 (a 5))

/-- spec.l05Led -/
def s_l05Led {β : Type} (z : β) (N : Nat) (n : Int) (x : Nat → Int) (r_ : Nat → Int) (k0 : (Nat → Int) → β) : β :=
  cond (fits IntKind.i64 (r_ 0 + r_ 2)) (cond (!n == 0) (cond (decide (0 ≤ r_ 0) && decide (r_ 0 < (↑8 : Int))) (cond ((r_ 0).toNat.blt 8) (cond (decide (0 ≤ (r_ 0 + r_ 2).tmod n) && decide ((r_ 0 + r_ 2).tmod n < (↑8 : Int))) (cond (((r_ 0 + r_ 2).tmod n).toNat.blt 8) (cond (decide (0 ≤ r_ 0) && decide (r_ 0 < (↑8 : Int))) (cond ((r_ 0).toNat.blt 8) (cond (decide (0 ≤ (r_ 0 + r_ 2).tmod n) && decide ((r_ 0 + r_ 2).tmod n < (↑8 : Int))) (cond (((r_ 0 + r_ 2).tmod n).toNat.blt 8) (k0 (upd (upd x (r_ 0).toNat (x ((r_ 0 + r_ 2).tmod n).toNat)) ((r_ 0 + r_ 2).tmod n).toNat (x (r_ 0).toNat))) (z)) (z)) (z)) (z)) (z)) (z)) (z)) (z)) (z)) (z)

/-- spec.LedTo, loop -/
def s_LedTo_l0_s {β : Type} (z : β) (N : Nat) (list_n : Nat) (list_l : Nat) (list_c : Nat) (h0_0 : Int) (h0_1 : Nat → Int) (h0_2 : Nat → Int) (h1 : Nat → Int) (h2 : Nat → Int) (h3 : Nat → Int) (h4 : List Int) (i : Int) (kn : Int → β) (k0 : (Nat → Int) → β) (k1 : β) : β :=
  cond (list_l.ble 9223372036854775807) (cond (decide (i < (↑list_l : Int))) (cond (list_n.beq h4.length && (decide (0 ≤ i) && decide (i < (↑list_l : Int)))) (cond (list_n.beq h4.length && (i.toNat * 6 + 6).ble h4.length) (cond (h4[addO (i.toNat * 6) 0]?.getD 0 == h2 0 && (h4[addO (i.toNat * 6) 1]?.getD 0 == h2 1 && (h4[addO (i.toNat * 6) 2]?.getD 0 == h2 2 && (h4[addO (i.toNat * 6) 3]?.getD 0 == h2 3 && (h4[addO (i.toNat * 6) 4]?.getD 0 == h2 4 && (h4[addO (i.toNat * 6) 5]?.getD 0 == h2 5 && true)))))) (s_l05Led z N h0_0 h1 h2 (fun q15 => k0 q15)) (cond (fits IntKind.i64 (i + 1)) (kn (i + 1)) (z))) (z)) (z)) (k1)) (z)
def s_LedTo_l0 {β : Type} (z : β) (N : Nat) (list_n : Nat) (list_l : Nat) (list_c : Nat) (h0_0 : Int) (h0_1 : Nat → Int) (h0_2 : Nat → Int) (h1 : Nat → Int) (h2 : Nat → Int) (h3 : Nat → Int) (h4 : List Int) : Nat → Int → ((Nat → Int) → β) → β → β
  | 0, _, _, _ => z
  | m + 1, i, k0, k1 => s_LedTo_l0_s z N list_n list_l list_c h0_0 h0_1 h0_2 h1 h2 h3 h4 i (fun i => s_LedTo_l0 z N list_n list_l list_c h0_0 h0_1 h0_2 h1 h2 h3 h4 m i k0 k1) k0 k1

/-- spec.LedTo -/
def s_LedTo {β : Type} (z : β) (N : Nat) (g_0 : Int) (g_1 : Nat → Int) (g_2 : Nat → Int) (x : Nat → Int) (r_ : Nat → Int) (k0 : (Nat → Int) → Int → β) : β :=
  s_l05Is z N g_0 g_1 g_2 x (fun q8 => cond (!q8) (k0 (fun (x : Nat) => 0) 1) (s_l05Rects z N g_0 g_1 g_2 x (fun q9 q10 q11 q12 => s_LedTo_l0 z N q9 q10 q11 g_0 g_1 g_2 x r_ (fun (x : Nat) => 0) q12 N 0 (fun q13 => k0 q13 0) (k0 (fun (x : Nat) => 0) 2))))

/-- slices.Index[[]impl.Rectangle,impl.Rectangle], loop -/
def slices_Index_i_Rectangle_i_Rectangle_l0_s {β : Type} (z : β) (s_n : Nat) (s_l : Nat) (s_c : Nat) (t7 : Int) (h0 : List Int) (h1 : Nat → Int) (t8 : Int) (kn : Int → β) (k0 : Int → β) (k1 : β) : β :=
  cond (decide (t8 < t7)) (cond (s_n.beq h0.length && (decide (0 ≤ t8) && decide (t8 < (↑s_l : Int)))) (cond (s_n.beq h0.length && (t8.toNat * 6 + 6).ble h0.length) (cond (h1 0 == h0[addO (t8.toNat * 6) 0]?.getD 0 && (h1 1 == h0[addO (t8.toNat * 6) 1]?.getD 0 && (h1 2 == h0[addO (t8.toNat * 6) 2]?.getD 0 && (h1 3 == h0[addO (t8.toNat * 6) 3]?.getD 0 && (h1 4 == h0[addO (t8.toNat * 6) 4]?.getD 0 && (h1 5 == h0[addO (t8.toNat * 6) 5]?.getD 0 && true)))))) (k0 t8) (cond (fits IntKind.i64 (t8 + 1)) (kn (t8 + 1)) (z))) (z)) (z)) (k1)
def slices_Index_i_Rectangle_i_Rectangle_l0 {β : Type} (z : β) (s_n : Nat) (s_l : Nat) (s_c : Nat) (t7 : Int) (h0 : List Int) (h1 : Nat → Int) : Nat → Int → (Int → β) → β → β
  | 0, _, _, _ => z
  | m + 1, t8, k0, k1 => slices_Index_i_Rectangle_i_Rectangle_l0_s z s_n s_l s_c t7 h0 h1 t8 (fun t8 => slices_Index_i_Rectangle_i_Rectangle_l0 z s_n s_l s_c t7 h0 h1 m t8 k0 k1) k0 k1

/-- slices.Index[[]impl.Rectangle,impl.Rectangle] -/
def slices_Index_i_Rectangle_i_Rectangle {β : Type} (z : β) (N : Nat) (s_n : Nat) (s_l : Nat) (s_c : Nat) (v : Nat → Int) (h0 : List Int) (k0 : Int → β) : β :=
  cond (s_l.ble 9223372036854775807) (slices_Index_i_Rectangle_i_Rectangle_l0 z s_n s_l s_c (↑s_l : Int) h0 v N 0 (fun q8 => k0 q8) (k0 (-1))) (z)

/-- slices.Contains[[]impl.Rectangle,impl.Rectangle] -/
def slices_Contains_i_Rectangle_i_Rectangle {β : Type} (z : β) (N : Nat) (s_n : Nat) (s_l : Nat) (s_c : Nat) (v : Nat → Int) (h0 : List Int) (k0 : Bool → β) : β :=
  slices_Index_i_Rectangle_i_Rectangle z N s_n s_l s_c v h0 (fun q8 => k0 (decide (0 ≤ q8)))

/-- (impl.Rectangle).led -/
def i_Rectangle_led {β : Type} (z : β) (N : Nat) (r_ : Nat → Int) (x : Nat → Int) (n : Int) (k0 : (Nat → Int) → β) : β :=
  cond (fits IntKind.i64 (r_ 0 + r_ 2)) (cond (!n == 0) (cond (decide (0 ≤ (r_ 0 + r_ 2).tmod n) && decide ((r_ 0 + r_ 2).tmod n < (↑8 : Int))) (cond (((r_ 0 + r_ 2).tmod n).toNat.blt 8) (cond (decide (0 ≤ r_ 0) && decide (r_ 0 < (↑8 : Int))) (cond ((r_ 0).toNat.blt 8) (cond (decide (0 ≤ r_ 0) && decide (r_ 0 < (↑8 : Int))) (cond ((r_ 0).toNat.blt 8) (cond (decide (0 ≤ (r_ 0 + r_ 2).tmod n) && decide ((r_ 0 + r_ 2).tmod n < (↑8 : Int))) (cond (((r_ 0 + r_ 2).tmod n).toNat.blt 8) (k0 (upd (upd x (r_ 0).toNat (x ((r_ 0 + r_ 2).tmod n).toNat)) ((r_ 0 + r_ 2).tmod n).toNat (x (r_ 0).toNat))) (z)) (z)) (z)) (z)) (z)) (z)) (z)) (z)) (z)) (z)

/-- impl.LedTo -/
def i_LedTo {β : Type} (z : β) (N : Nat) (g_0 : Int) (g_1 : Nat → Int) (g_2 : Nat → Int) (x : Nat → Int) (r_ : Nat → Int) (k0 : (Nat → Int) → Int → β) : β :=
  i_IsState z N g_0 g_1 g_2 x (fun q8 => cond (!q8) (k0 (fun (x : Nat) => 0) 1) (i_Grid_rectangles z N g_0 g_1 g_2 x false (fun q9 q10 q11 q12 => slices_Contains_i_Rectangle_i_Rectangle z N q9 q10 q11 r_ q12 (fun q13 => cond (!q13) (k0 (fun (x : Nat) => 0) 2) (i_Rectangle_led z N r_ x g_0 (fun q14 => k0 q14 0))))))

/-- laws.FnExactLedTo -/
def w_FnExactLedTo {β : Type} (z : β) (N : Nat) (aG_0 : Int) (aG_1 : Nat → Int) (aG_2 : Nat → Int) (aX : Nat → Int) (aR : Nat → Int) (k0 : Bool → β) : β :=
  w_toGrid z N aG_0 aG_1 aG_2 (fun q8 q9 => w_toState z N aX (fun q10 => w_toRectangle z N aR (fun q11 => s_LedTo z N aG_0 q8 q9 q10 q11 (fun q12 q13 => w_toGrid z N aG_0 aG_1 aG_2 (fun q14 q15 => w_toState z N aX (fun q16 => w_toRectangle z N aR (fun q17 => i_LedTo z N aG_0 q14 q15 q16 q17 (fun q18 q19 => w_eqState z N q18 q12 (fun q20 => cond (!q20) (k0 false) (cond (q19 != q13) (k0 false) (k0 true)))))))))))
end Go.AM
