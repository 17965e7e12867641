/- A part of a proof about the given program: an abstract machine, what the given functions come to, and plain laws. -/
import Derived.Test.YtkboldcnkkolkaaDIsTransitive
import Derived.Test.YtkboldcnkkolkaaDLowerState
import Derived.Test.YtkboldcnkkolkaaDIsPlaces
import Derived.Test.YtkboldcnkkolkaaDIsMosaic
import Derived.Test.YtkboldcnkkolkaaDRelationsOf
set_option maxRecDepth 100000
namespace Go.AM
/-- spec.l08Same, loop -/
def s_l08Same_l0_s {β : Type} (z : β) (k : Int) (h0 : Nat → Int) (x : Int) (h1 : Nat → Int) (kn : Int → (Nat → Int) → β) (k0 : (Nat → Int) → β) : β :=
  cond (decide (x < k)) (cond (decide (0 ≤ x) && decide (x < (↑4 : Int))) (cond (x.toNat.blt 4) (cond (fits IntKind.i64 (x + 1)) (kn (x + 1) (upd h1 x.toNat (wrapU IntKind.u8 x))) (z)) (z)) (z)) (k0 h1)
def s_l08Same_l0 {β : Type} (z : β) (k : Int) (h0 : Nat → Int) : Nat → Int → (Nat → Int) → ((Nat → Int) → β) → β
  | 0, _, _, _ => z
  | m + 1, x, h1, k0 => s_l08Same_l0_s z k h0 x h1 (fun x h1 => s_l08Same_l0 z k h0 m x h1 k0) k0

/-- spec.l08Same -/
def s_l08Same {β : Type} (z : β) (N : Nat) (k : Int) (k0 : (Nat → Int) → β) : β :=
  s_l08Same_l0 z k (fun (x : Nat) => 0) N 0 (fun (x : Nat) => 0) (fun q4 => k0 q4)

/-- spec.l08Then, loop -/
def s_l08Then_l0_s {β : Type} (z : β) (k : Int) (h0 : Nat → Int) (h1 : Nat → Int) (h2 : Nat → Int) (x : Int) (h3 : Nat → Int) (kn : Int → (Nat → Int) → β) (k0 : (Nat → Int) → β) : β :=
  cond (decide (x < k)) (cond (decide (0 ≤ x) && decide (x < (↑4 : Int))) (cond (x.toNat.blt 4) (cond (decide (0 ≤ h0 x.toNat) && decide (h0 x.toNat < (↑4 : Int))) (cond ((h0 x.toNat).toNat.blt 4) (cond (decide (0 ≤ x) && decide (x < (↑4 : Int))) (cond (x.toNat.blt 4) (cond (fits IntKind.i64 (x + 1)) (kn (x + 1) (upd h3 x.toNat (h1 (h0 x.toNat).toNat))) (z)) (z)) (z)) (z)) (z)) (z)) (z)) (k0 h3)
def s_l08Then_l0 {β : Type} (z : β) (k : Int) (h0 : Nat → Int) (h1 : Nat → Int) (h2 : Nat → Int) : Nat → Int → (Nat → Int) → ((Nat → Int) → β) → β
  | 0, _, _, _ => z
  | m + 1, x, h3, k0 => s_l08Then_l0_s z k h0 h1 h2 x h3 (fun x h3 => s_l08Then_l0 z k h0 h1 h2 m x h3 k0) k0

/-- spec.l08Then -/
def s_l08Then {β : Type} (z : β) (N : Nat) (p : Nat → Int) (q : Nat → Int) (k : Int) (k0 : (Nat → Int) → β) : β :=
  s_l08Then_l0 z k p q (fun (x : Nat) => 0) N 0 (fun (x : Nat) => 0) (fun q6 => k0 q6)

/-- spec.l08Product, loop -/
def s_l08Product_l0_s {β : Type} (z : β) (N : Nat) (columns_n : Nat) (columns_l : Nat) (columns_c : Nat) (list_n : Nat) (list_l : Nat) (list_c : Nat) (k : Int) (h0_n : Nat) (h0 : Nat → Int) (h1 : List Int) (h2 : Nat → Int) (i : Int) (h3 : Nat → Int) (kn : Int → (Nat → Int) → β) (k0 : (Nat → Int) → β) : β :=
  cond (columns_l.ble 9223372036854775807) (cond (decide (i < (↑columns_l : Int))) (cond (columns_n.beq h1.length && (decide (0 ≤ i) && decide (i < (↑columns_l : Int)))) (cond (columns_n.beq h1.length && i.toNat.blt h1.length) (cond (list_n.beq h0_n && (decide (0 ≤ h1[i.toNat]?.getD 0) && decide (h1[i.toNat]?.getD 0 < (↑list_l : Int)))) (cond (list_n.beq h0_n && ((h1[i.toNat]?.getD 0).toNat * 4 + 4).ble h0_n) (s_l08Then z N h3 (shiftF h0 ((h1[i.toNat]?.getD 0).toNat * 4)) k (fun q17 => cond (fits IntKind.i64 (i + 1)) (kn (i + 1) q17) (z))) (z)) (z)) (z)) (z)) (k0 h3)) (z)
def s_l08Product_l0 {β : Type} (z : β) (N : Nat) (columns_n : Nat) (columns_l : Nat) (columns_c : Nat) (list_n : Nat) (list_l : Nat) (list_c : Nat) (k : Int) (h0_n : Nat) (h0 : Nat → Int) (h1 : List Int) (h2 : Nat → Int) : Nat → Int → (Nat → Int) → ((Nat → Int) → β) → β
  | 0, _, _, _ => z
  | m + 1, i, h3, k0 => s_l08Product_l0_s z N columns_n columns_l columns_c list_n list_l list_c k h0_n h0 h1 h2 i h3 (fun i h3 => s_l08Product_l0 z N columns_n columns_l columns_c list_n list_l list_c k h0_n h0 h1 h2 m i h3 k0) k0

/-- spec.l08Product -/
def s_l08Product {β : Type} (z : β) (N : Nat) (columns_n : Nat) (columns_l : Nat) (columns_c : Nat) (list_n : Nat) (list_l : Nat) (list_c : Nat) (k : Int) (h0_n : Nat) (h0 : Nat → Int) (h1 : List Int) (k0 : (Nat → Int) → β) : β :=
  s_l08Same z N k (fun q13 => s_l08Product_l0 z N columns_n columns_l columns_c list_n list_l list_c k h0_n h0 h1 (fun (x : Nat) => 0) N 0 q13 (fun q14 => k0 q14))

/-- spec.l08Map, loop -/
def s_l08Map_l0_s {β : Type} (z : β) (N : Nat) (k : Int) (list_n : Nat) (list_l : Nat) (list_c : Nat) (h0_n : Nat) (h0 : Nat → Int) (h1_0 : Int) (h1_1 : Nat → Int) (h1_2 : Nat → Int) (r_ : Int) (kn : Int → β) (k0 : β) (k1 : β) : β :=
  cond (fits IntKind.i64 (h1_0 - 1)) (cond (decide (r_ < h1_0 - 1)) (s_l08Relation z N h1_0 h1_1 h1_2 r_ (fun q14 q15 q16 q17 => s_l08Product z N q14 q15 q16 list_n list_l list_c k h0_n h0 q17 (fun q18 => s_l08Same z N k (fun q19 => cond (!(q18 0 == q19 0 && (q18 1 == q19 1 && (q18 2 == q19 2 && (q18 3 == q19 3 && true))))) (k0) (cond (fits IntKind.i64 (r_ + 1)) (kn (r_ + 1)) (z)))))) (k1)) (z)
def s_l08Map_l0 {β : Type} (z : β) (N : Nat) (k : Int) (list_n : Nat) (list_l : Nat) (list_c : Nat) (h0_n : Nat) (h0 : Nat → Int) (h1_0 : Int) (h1_1 : Nat → Int) (h1_2 : Nat → Int) : Nat → Int → β → β → β
  | 0, _, _, _ => z
  | m + 1, r_, k0, k1 => s_l08Map_l0_s z N k list_n list_l list_c h0_n h0 h1_0 h1_1 h1_2 r_ (fun r_ => s_l08Map_l0 z N k list_n list_l list_c h0_n h0 h1_0 h1_1 h1_2 m r_ k0 k1) k0 k1

/-- spec.l08Map -/
def s_l08Map {β : Type} (z : β) (N : Nat) (g_0 : Int) (g_1 : Nat → Int) (g_2 : Nat → Int) (k : Int) (list_n : Nat) (list_l : Nat) (list_c : Nat) (h0_n : Nat) (h0 : Nat → Int) (k0 : Bool → β) : β :=
  s_l08Map_l0 z N k list_n list_l list_c h0_n h0 g_0 g_1 g_2 N 0 (k0 false) (k0 true)

/-- spec.IsMapOf -/
def s_IsMapOf {β : Type} (z : β) (N : Nat) (g_0 : Int) (g_1 : Nat → Int) (g_2 : Nat → Int) (k : Int) (list_n : Nat) (list_l : Nat) (list_c : Nat) (h0_n : Nat) (h0 : Nat → Int) (k0 : Bool → Int → β) : β :=
  s_l01Is z N g_0 g_1 g_2 (fun q12 => cond (!q12) (k0 false 1) (s_l08List z N k list_n list_l list_c h0_n h0 (fun q13 => cond (q13 != 0) (k0 false 2) (cond (list_l.ble 9223372036854775807) (cond ((↑list_l : Int) != g_0) (k0 false 2) (s_l08Map z N g_0 g_1 g_2 k list_n list_l list_c h0_n h0 (fun q14 => k0 q14 0))) (z)))))

/-- impl.unit, loop -/
def i_unit_l0_s {β : Type} (z : β) (t6 : Int) (h0 : Nat → Int) (t7 : Int) (h1 : Nat → Int) (kn : Int → (Nat → Int) → β) (k0 : (Nat → Int) → β) : β :=
  cond (decide (t7 < t6)) (cond (decide (0 ≤ t7) && decide (t7 < (↑4 : Int))) (cond (t7.toNat.blt 4) (cond (fits IntKind.i64 (t7 + 1)) (kn (t7 + 1) (upd h1 t7.toNat (wrapU IntKind.u8 t7))) (z)) (z)) (z)) (k0 h1)
def i_unit_l0 {β : Type} (z : β) (t6 : Int) (h0 : Nat → Int) : Nat → Int → (Nat → Int) → ((Nat → Int) → β) → β
  | 0, _, _, _ => z
  | m + 1, t7, h1, k0 => i_unit_l0_s z t6 h0 t7 h1 (fun t7 h1 => i_unit_l0 z t6 h0 m t7 h1 k0) k0

/-- impl.unit -/
def i_unit {β : Type} (z : β) (N : Nat) (k : Int) (k0 : (Nat → Int) → β) : β :=
  i_unit_l0 z k (fun (x : Nat) => 0) N 0 (fun (x : Nat) => 0) (fun q4 => k0 q4)

/-- (impl.Places).then, loop -/
def i_Places_then_l0_s {β : Type} (z : β) (h1 : Nat → Int) (h2 : Nat → Int) (t6 : Int) (h0 : Nat → Int) (kn : Int → (Nat → Int) → β) (k0 : (Nat → Int) → β) : β :=
  cond (decide (t6 < 4)) (cond (decide (0 ≤ t6) && decide (t6 < (↑4 : Int))) (cond (t6.toNat.blt 4) (cond (decide (0 ≤ h0 t6.toNat) && decide (h0 t6.toNat < (↑4 : Int))) (cond ((h0 t6.toNat).toNat.blt 4) (cond (decide (0 ≤ t6) && decide (t6 < (↑4 : Int))) (cond (t6.toNat.blt 4) (cond (fits IntKind.i64 (t6 + 1)) (kn (t6 + 1) (upd h0 t6.toNat (h1 (h0 t6.toNat).toNat))) (z)) (z)) (z)) (z)) (z)) (z)) (z)) (k0 h0)
def i_Places_then_l0 {β : Type} (z : β) (h1 : Nat → Int) (h2 : Nat → Int) : Nat → Int → (Nat → Int) → ((Nat → Int) → β) → β
  | 0, _, _, _ => z
  | m + 1, t6, h0, k0 => i_Places_then_l0_s z h1 h2 t6 h0 (fun t6 h0 => i_Places_then_l0 z h1 h2 m t6 h0 k0) k0

/-- (impl.Places).then -/
def i_Places_then {β : Type} (z : β) (N : Nat) (p : Nat → Int) (q : Nat → Int) (k0 : (Nat → Int) → β) : β :=
  i_Places_then_l0 z q (fun (x : Nat) => 0) N 0 p (fun q5 => k0 q5)

/-- impl.product, loop -/
def i_product_l0_s {β : Type} (z : β) (N : Nat) (list_n : Nat) (list_l : Nat) (list_c : Nat) (t12_r : Nat) (t12_o : Nat) (t12_n : Nat) (t12_l : Nat) (t12_c : Nat) (t13 : Int) (h0_n : Nat) (h0 : Nat → Int) (h1 : List (List Int)) (h2 : Nat → Int) (t14 : Int) (h3 : Nat → Int) (kn : Int → (Nat → Int) → β) (k0 : (Nat → Int) → β) : β :=
  cond (decide (t14 < t13)) (cond (t12_n.beq (h1[t12_r]?.getD []).length && (decide (0 ≤ t14) && decide (t14 < (↑t12_l : Int)))) (cond (t12_n.beq (h1[t12_r]?.getD []).length && (addO t12_o t14.toNat).blt (h1[t12_r]?.getD []).length) (cond (list_n.beq h0_n && (decide (0 ≤ (h1[t12_r]?.getD [])[addO t12_o t14.toNat]?.getD 0) && decide ((h1[t12_r]?.getD [])[addO t12_o t14.toNat]?.getD 0 < (↑list_l : Int)))) (cond (list_n.beq h0_n && (((h1[t12_r]?.getD [])[addO t12_o t14.toNat]?.getD 0).toNat * 4 + 4).ble h0_n) (i_Places_then z N h3 (shiftF h0 (((h1[t12_r]?.getD [])[addO t12_o t14.toNat]?.getD 0).toNat * 4)) (fun q19 => cond (fits IntKind.i64 (t14 + 1)) (kn (t14 + 1) q19) (z))) (z)) (z)) (z)) (z)) (k0 h3)
def i_product_l0 {β : Type} (z : β) (N : Nat) (list_n : Nat) (list_l : Nat) (list_c : Nat) (t12_r : Nat) (t12_o : Nat) (t12_n : Nat) (t12_l : Nat) (t12_c : Nat) (t13 : Int) (h0_n : Nat) (h0 : Nat → Int) (h1 : List (List Int)) (h2 : Nat → Int) : Nat → Int → (Nat → Int) → ((Nat → Int) → β) → β
  | 0, _, _, _ => z
  | m + 1, t14, h3, k0 => i_product_l0_s z N list_n list_l list_c t12_r t12_o t12_n t12_l t12_c t13 h0_n h0 h1 h2 t14 h3 (fun t14 h3 => i_product_l0 z N list_n list_l list_c t12_r t12_o t12_n t12_l t12_c t13 h0_n h0 h1 h2 m t14 h3 k0) k0

/-- impl.product -/
def i_product {β : Type} (z : β) (N : Nat) (k : Int) (list_n : Nat) (list_l : Nat) (list_c : Nat) (columns_r : Nat) (columns_o : Nat) (columns_n : Nat) (columns_l : Nat) (columns_c : Nat) (h0_n : Nat) (h0 : Nat → Int) (h1 : List (List Int)) (k0 : (Nat → Int) → β) : β :=
  i_unit z N k (fun q15 => cond (columns_l.ble 9223372036854775807) (i_product_l0 z N list_n list_l list_c columns_r columns_o columns_n columns_l columns_c (↑columns_l : Int) h0_n h0 h1 (fun (x : Nat) => 0) N 0 q15 (fun q16 => k0 q16)) (z))

/-- impl.IsMapOf$1 -/
def i_IsMapOf_1 {β : Type} (z : β) (N : Nat) (columns_r : Nat) (columns_o : Nat) (columns_n : Nat) (columns_l : Nat) (columns_c : Nat) (h0 : List (List Int)) (h1 : Int) (h2_n : Nat) (h2_l : Nat) (h2_c : Nat) (h3_n : Nat) (h3 : Nat → Int) (k0 : Bool → β) : β :=
  i_product z N h1 h2_n h2_l h2_c columns_r columns_o columns_n columns_l columns_c h3_n h3 h0 (fun q15 => i_unit z N h1 (fun q16 => k0 (!(q15 0 == q16 0 && (q15 1 == q16 1 && (q15 2 == q16 2 && (q15 3 == q16 3 && true)))))))

/-- slices.IndexFunc[[][]int,[]int], loop -/
def slices_IndexFunc_int_int_l0_s {β : Type} (z : β) (N : Nat) (s_n : Nat) (s_l : Nat) (s_c : Nat) (t7 : Int) (h0 : List (Nat × Nat)) (h1 : Int) (h2_n : Nat) (h2_l : Nat) (h2_c : Nat) (h3 : List (List Int)) (h4_n : Nat) (h4 : Nat → Int) (t8 : Int) (kn : Int → β) (k0 : Int → β) (k1 : β) : β :=
  cond (decide (t8 < t7)) (cond (s_n.beq h0.length && (decide (0 ≤ t8) && decide (t8 < (↑s_l : Int)))) (cond (s_n.beq h0.length && t8.toNat.blt h0.length) (i_IsMapOf_1 z N ((h0[t8.toNat]?.getD (0, 0)).fst) 0 ((h0[t8.toNat]?.getD (0, 0)).snd) ((h0[t8.toNat]?.getD (0, 0)).snd) ((h0[t8.toNat]?.getD (0, 0)).snd) h3 h1 h2_n h2_l h2_c h4_n h4 (fun q17 => cond (q17) (k0 t8) (cond (fits IntKind.i64 (t8 + 1)) (kn (t8 + 1)) (z)))) (z)) (z)) (k1)
def slices_IndexFunc_int_int_l0 {β : Type} (z : β) (N : Nat) (s_n : Nat) (s_l : Nat) (s_c : Nat) (t7 : Int) (h0 : List (Nat × Nat)) (h1 : Int) (h2_n : Nat) (h2_l : Nat) (h2_c : Nat) (h3 : List (List Int)) (h4_n : Nat) (h4 : Nat → Int) : Nat → Int → (Int → β) → β → β
  | 0, _, _, _ => z
  | m + 1, t8, k0, k1 => slices_IndexFunc_int_int_l0_s z N s_n s_l s_c t7 h0 h1 h2_n h2_l h2_c h3 h4_n h4 t8 (fun t8 => slices_IndexFunc_int_int_l0 z N s_n s_l s_c t7 h0 h1 h2_n h2_l h2_c h3 h4_n h4 m t8 k0 k1) k0 k1

/-- slices.IndexFunc[[][]int,[]int] -/
def slices_IndexFunc_int_int {β : Type} (z : β) (N : Nat) (s_n : Nat) (s_l : Nat) (s_c : Nat) (h0 : List (Nat × Nat)) (h1 : Int) (h2_n : Nat) (h2_l : Nat) (h2_c : Nat) (h3 : List (List Int)) (h4_n : Nat) (h4 : Nat → Int) (k0 : Int → β) : β :=
  cond (s_l.ble 9223372036854775807) (slices_IndexFunc_int_int_l0 z N s_n s_l s_c (↑s_l : Int) h0 h1 h2_n h2_l h2_c h3 h4_n h4 N 0 (fun q14 => k0 q14) (k0 (-1))) (z)

/-- slices.ContainsFunc[[][]int,[]int] -/
def slices_ContainsFunc_int_int {β : Type} (z : β) (N : Nat) (s_n : Nat) (s_l : Nat) (s_c : Nat) (h0_n : Nat) (h0 : Nat → Int) (h1 : List (Nat × Nat)) (h2 : Int) (h3_n : Nat) (h3_l : Nat) (h3_c : Nat) (h4 : List (List Int)) (k0 : Bool → β) : β :=
  slices_IndexFunc_int_int z N s_n s_l s_c h1 h2 h3_n h3_l h3_c h4 h0_n h0 (fun q14 => k0 (decide (0 ≤ q14)))

/-- impl.IsMapOf -/
def i_IsMapOf {β : Type} (z : β) (N : Nat) (g_0 : Int) (g_1 : Nat → Int) (g_2 : Nat → Int) (k : Int) (list_n : Nat) (list_l : Nat) (list_c : Nat) (h0_n : Nat) (h0 : Nat → Int) (k0 : Bool → Int → β) : β :=
  i_IsGrid z N g_0 g_1 g_2 (fun q12 => cond (!q12) (k0 false 1) (i_arePlaces z N list_n list_l list_c k h0_n h0 (fun q13 => cond (!q13) (k0 false 2) (cond (list_l.ble 9223372036854775807) (i_Grid_n z N g_0 g_1 g_2 (cond ((↑list_l : Int) != g_0) (k0 false 2) (i_Grid_relations z N g_0 g_1 g_2 (fun q14 q15 q16 q17 q18 => slices_ContainsFunc_int_int z N q14 q15 q16 h0_n h0 q17 k list_n list_l list_c q18 (fun q19 => k0 (!q19) 0))))) (z)))))

/-- laws.FnExactIsMapOf -/
def w_FnExactIsMapOf {β : Type} (z : β) (N : Nat) (aG_0 : Int) (aG_1 : Nat → Int) (aG_2 : Nat → Int) (aK : Int) (aList_n : Nat) (aList_l : Nat) (aList_c : Nat) (h0_n : Nat) (h0 : Nat → Int) (k0 : Bool → β) : β :=
  w_szPlacesS z N aList_n aList_l aList_c 1048576 h0_n h0 (fun q12 => cond (decide (q12 < 0)) (k0 true) (w_toGrid z N aG_0 aG_1 aG_2 (fun q13 q14 => w_toPlacesS z N aList_n aList_l aList_c h0_n h0 (fun q15 q16 q17 q18 q19 => s_IsMapOf z N aG_0 q13 q14 aK q15 q16 q17 q18 q19 (fun q20 q21 => w_toPlacesS z N aList_n aList_l aList_c h0_n h0 (fun q22 q23 q24 q25 q26 => w_toGrid z N aG_0 aG_1 aG_2 (fun q27 q28 => i_IsMapOf z N aG_0 q27 q28 aK q22 q23 q24 q25 q26 (fun q29 q30 => cond (q29 != q20) (k0 false) (cond (q30 != q21) (k0 false) (w_toPlacesS z N aList_n aList_l aList_c h0_n h0 (fun q31 q32 q33 q34 q35 => w_eqPlacesS z N q22 q23 q24 q31 q32 q33 q25 q26 q34 q35 (fun q36 => cond (!q36) (k0 false) (k0 true)))))))))))))
end Go.AM
