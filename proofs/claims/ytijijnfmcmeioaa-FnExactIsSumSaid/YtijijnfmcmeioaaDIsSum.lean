/- A part of a proof about the given program: an abstract machine, what the given functions come to, and plain laws. -/
import Derived.Test.YtijijnfmcmeioaaDLowerState
import Derived.Test.YtijijnfmcmeioaaDAlexanderNumber
import Derived.Test.YtijijnfmcmeioaaDIsMosaic
set_option maxRecDepth 100000
namespace Go.AM
/-- laws.szStateS -/
def w_szStateS {β : Type} (z : β) (N : Nat) (a_n : Nat) (a_l : Nat) (a_c : Nat) (left : Int) (h0_n : Nat) (h0 : Nat → Int) (k0 : Int → β) : β :=
  cond (a_l.ble 9223372036854775807) (cond (fits IntKind.i64 (left - (↑a_l : Int))) (cond (decide (left - (↑a_l : Int) < 0)) (k0 (-1)) (k0 (left - (↑a_l : Int)))) (z)) (z)

/-- laws.toStateS, loop -/
def w_toStateS_l0_s {β : Type} (z : β) (N : Nat) (a_n : Nat) (a_l : Nat) (a_c : Nat) (out_n : Nat) (out_l : Nat) (out_c : Nat) (h0_n : Nat) (h0 : Nat → Int) (h1_n : Nat) (i : Int) (h1 : Nat → Int) (kn : Int → (Nat → Int) → β) (k0 : (Nat → Int) → β) : β :=
  cond (a_l.ble 9223372036854775807) (cond (decide (i < (↑a_l : Int))) (cond (a_n.beq h0_n && (decide (0 ≤ i) && decide (i < (↑a_l : Int)))) (cond (a_n.beq h0_n && (i.toNat * 8 + 8).ble h0_n) (w_toState z N (shiftF h0 (i.toNat * 8)) (fun q15 => cond (out_n.beq h1_n && (decide (0 ≤ i) && decide (i < (↑out_l : Int)))) (cond (out_n.beq h1_n && (i.toNat * 8 + 8).ble h1_n) (cond (fits IntKind.i64 (i + 1)) (kn (i + 1) (chooseF (Nat.beq 8 h1_n) q15 (spliceF h1 (i.toNat * 8) 8 q15))) (z)) (z)) (z))) (z)) (z)) (k0 h1)) (z)
def w_toStateS_l0 {β : Type} (z : β) (N : Nat) (a_n : Nat) (a_l : Nat) (a_c : Nat) (out_n : Nat) (out_l : Nat) (out_c : Nat) (h0_n : Nat) (h0 : Nat → Int) (h1_n : Nat) : Nat → Int → (Nat → Int) → ((Nat → Int) → β) → β
  | 0, _, _, _ => z
  | m + 1, i, h1, k0 => w_toStateS_l0_s z N a_n a_l a_c out_n out_l out_c h0_n h0 h1_n i h1 (fun i h1 => w_toStateS_l0 z N a_n a_l a_c out_n out_l out_c h0_n h0 h1_n m i h1 k0) k0

/-- laws.toStateS -/
def w_toStateS {β : Type} (z : β) (N : Nat) (a_n : Nat) (a_l : Nat) (a_c : Nat) (h0_n : Nat) (h0 : Nat → Int) (k0 : Nat → Nat → Nat → Nat → (Nat → Int) → β) : β :=
  cond (a_l.ble 9223372036854775807) (cond (decide ((↑a_l : Int) ≤ (↑a_l : Int)) && decide ((↑a_l : Int) ≤ 1073741824) && true && true) (w_toStateS_l0 z N a_n a_l a_c ((↑a_l : Int).toNat * 8) ((↑a_l : Int).toNat) ((↑a_l : Int).toNat) h0_n h0 ((↑a_l : Int).toNat * 8) N 0 (fun (x : Nat) => 0) (fun q8 => k0 ((↑a_l : Int).toNat * 8) ((↑a_l : Int).toNat) ((↑a_l : Int).toNat) ((↑a_l : Int).toNat * 8) q8)) (z)) (z)

/-- spec.l05Before, loop -/
def s_l05Before_l0_s {β : Type} (z : β) (h0 : Nat → Int) (h1 : Nat → Int) (i : Int) (kn : Int → β) (k0 : Bool → β) (k1 : β) : β :=
  cond (decide (i < 8)) (cond (decide (0 ≤ i) && decide (i < (↑8 : Int))) (cond (i.toNat.blt 8) (cond (decide (0 ≤ i) && decide (i < (↑8 : Int))) (cond (i.toNat.blt 8) (cond (h0 i.toNat != h1 i.toNat) (cond (decide (0 ≤ i) && decide (i < (↑8 : Int))) (cond (i.toNat.blt 8) (cond (decide (0 ≤ i) && decide (i < (↑8 : Int))) (cond (i.toNat.blt 8) (k0 (decide (h0 i.toNat < h1 i.toNat))) (z)) (z)) (z)) (z)) (cond (fits IntKind.i64 (i + 1)) (kn (i + 1)) (z))) (z)) (z)) (z)) (z)) (k1)
def s_l05Before_l0 {β : Type} (z : β) (h0 : Nat → Int) (h1 : Nat → Int) : Nat → Int → (Bool → β) → β → β
  | 0, _, _, _ => z
  | m + 1, i, k0, k1 => s_l05Before_l0_s z h0 h1 i (fun i => s_l05Before_l0 z h0 h1 m i k0 k1) k0 k1

/-- spec.l05Before -/
def s_l05Before {β : Type} (z : β) (N : Nat) (x : Nat → Int) (y : Nat → Int) (k0 : Bool → β) : β :=
  s_l05Before_l0 z x y N 0 (fun q5 => k0 q5) (k0 false)

/-- spec.l06Sum, loop -/
def s_l06Sum_l0_s {β : Type} (z : β) (N : Nat) (list_n : Nat) (list_l : Nat) (list_c : Nat) (h0_n : Nat) (h0 : Nat → Int) (h1_0 : Int) (h1_1 : Nat → Int) (h1_2 : Nat → Int) (i : Int) (kn : Int → β) (k0 : β) (k1 : β) : β :=
  cond (list_l.ble 9223372036854775807) (cond (decide (i < (↑list_l : Int))) (cond (list_n.beq h0_n && (decide (0 ≤ i) && decide (i < (↑list_l : Int)))) (cond (list_n.beq h0_n && (i.toNat * 8 + 8).ble h0_n) (s_l05Is z N h1_0 h1_1 h1_2 (shiftF h0 (i.toNat * 8)) (fun q13 => cond (!q13) (k0) (cond (decide (0 < i)) (cond (fits IntKind.i64 (i - 1)) (cond (list_n.beq h0_n && (decide (0 ≤ i - 1) && decide (i - 1 < (↑list_l : Int)))) (cond (list_n.beq h0_n && ((i - 1).toNat * 8 + 8).ble h0_n) (cond (list_n.beq h0_n && (decide (0 ≤ i) && decide (i < (↑list_l : Int)))) (cond (list_n.beq h0_n && (i.toNat * 8 + 8).ble h0_n) (s_l05Before z N (shiftF h0 ((i - 1).toNat * 8)) (shiftF h0 (i.toNat * 8)) (fun q14 => cond (!q14) (k0) (cond (fits IntKind.i64 (i + 1)) (kn (i + 1)) (z)))) (z)) (z)) (z)) (z)) (z)) (cond (fits IntKind.i64 (i + 1)) (kn (i + 1)) (z))))) (z)) (z)) (k1)) (z)
def s_l06Sum_l0 {β : Type} (z : β) (N : Nat) (list_n : Nat) (list_l : Nat) (list_c : Nat) (h0_n : Nat) (h0 : Nat → Int) (h1_0 : Int) (h1_1 : Nat → Int) (h1_2 : Nat → Int) : Nat → Int → β → β → β
  | 0, _, _, _ => z
  | m + 1, i, k0, k1 => s_l06Sum_l0_s z N list_n list_l list_c h0_n h0 h1_0 h1_1 h1_2 i (fun i => s_l06Sum_l0 z N list_n list_l list_c h0_n h0 h1_0 h1_1 h1_2 m i k0 k1) k0 k1

/-- spec.l06Sum -/
def s_l06Sum {β : Type} (z : β) (N : Nat) (g_0 : Int) (g_1 : Nat → Int) (g_2 : Nat → Int) (list_n : Nat) (list_l : Nat) (list_c : Nat) (h0_n : Nat) (h0 : Nat → Int) (k0 : Bool → β) : β :=
  s_l01Is z N g_0 g_1 g_2 (fun q11 => cond (!q11) (k0 false) (s_l06Sum_l0 z N list_n list_l list_c h0_n h0 g_0 g_1 g_2 N 0 (k0 false) (k0 true)))

/-- spec.IsSum -/
def s_IsSum {β : Type} (z : β) (N : Nat) (g_0 : Int) (g_1 : Nat → Int) (g_2 : Nat → Int) (list_n : Nat) (list_l : Nat) (list_c : Nat) (h0_n : Nat) (h0 : Nat → Int) (k0 : Bool → β) : β :=
  s_l06Sum z N g_0 g_1 g_2 list_n list_l list_c h0_n h0 (fun q11 => k0 q11)

/-- cmp.isNaN[byte] -/
def cmp_isNaN_byte {β : Type} (z : β) (N : Nat) (x : Int) (k0 : Bool → β) : β :=
  k0 (x != x)

/-- cmp.Compare[byte] -/
def cmp_Compare_byte {β : Type} (z : β) (N : Nat) (x : Int) (y : Int) (k0 : Int → β) : β :=
  cmp_isNaN_byte z N x (fun q5 => cmp_isNaN_byte z N y (fun q6 => cond (q5) (cond (q6) (k0 0) (k0 (-1))) (cond (q6) (k0 1) (cond (decide (x < y)) (k0 (-1)) (cond (decide (y < x)) (k0 1) (k0 0))))))

/-- slices.Compare[[]byte,byte], loop -/
def slices_Compare_byte_byte_l0_s {β : Type} (z : β) (N : Nat) (h0 : Nat → Int) (h1 : Nat → Int) (t11 : Int) (kn : Int → β) (k0 : β) (k1 : Int → β) (k2 : β) : β :=
  cond (decide (t11 < 8)) (cond (decide (0 ≤ t11) && decide (t11 < (↑8 : Int))) (cond (t11.toNat.blt 8) (cond (decide ((↑8 : Int) ≤ t11)) (k0) (cond (decide (0 ≤ t11) && decide (t11 < (↑8 : Int))) (cond (t11.toNat.blt 8) (cmp_Compare_byte z N (h0 t11.toNat) (h1 t11.toNat) (fun q7 => cond (q7 != 0) (k1 q7) (cond (fits IntKind.i64 (t11 + 1)) (kn (t11 + 1)) (z)))) (z)) (z))) (z)) (z)) (k2)
def slices_Compare_byte_byte_l0 {β : Type} (z : β) (N : Nat) (h0 : Nat → Int) (h1 : Nat → Int) : Nat → Int → β → (Int → β) → β → β
  | 0, _, _, _, _ => z
  | m + 1, t11, k0, k1, k2 => slices_Compare_byte_byte_l0_s z N h0 h1 t11 (fun t11 => slices_Compare_byte_byte_l0 z N h0 h1 m t11 k0 k1 k2) k0 k1 k2

/-- slices.Compare[[]byte,byte] -/
def slices_Compare_byte_byte {β : Type} (z : β) (N : Nat) (h0 : Nat → Int) (h1 : Nat → Int) (k0 : Int → β) : β :=
  slices_Compare_byte_byte_l0 z N h0 h1 N 0 (k0 1) (fun q5 => k0 q5) (k0 0)

/-- impl.compareStates -/
def i_compareStates {β : Type} (z : β) (N : Nat) (x : Nat → Int) (y : Nat → Int) (k0 : Int → β) : β :=
  slices_Compare_byte_byte z N x y (fun q5 => k0 q5)

/-- impl.IsSum, loop -/
def i_IsSum_l0_s {β : Type} (z : β) (N : Nat) (list_n : Nat) (list_l : Nat) (list_c : Nat) (t10_n : Nat) (t10_l : Nat) (t10_c : Nat) (t11 : Int) (h0_n : Nat) (h0 : Nat → Int) (h1_0 : Int) (h1_1 : Nat → Int) (h1_2 : Nat → Int) (t12 : Int) (kn : Int → β) (k0 : β) (k1 : β) : β :=
  cond (decide (t12 < t11)) (cond (t10_n.beq h0_n && (decide (0 ≤ t12) && decide (t12 < (↑t10_l : Int)))) (cond (t10_n.beq h0_n && (t12.toNat * 8 + 8).ble h0_n) (i_Grid_isState z N h1_0 h1_1 h1_2 (shiftF h0 (t12.toNat * 8)) (fun q17 => cond (!q17) (k0) (cond (decide (0 < t12)) (cond (fits IntKind.i64 (t12 - 1)) (cond (list_n.beq h0_n && (decide (0 ≤ t12 - 1) && decide (t12 - 1 < (↑list_l : Int)))) (cond (list_n.beq h0_n && ((t12 - 1).toNat * 8 + 8).ble h0_n) (i_compareStates z N (shiftF h0 ((t12 - 1).toNat * 8)) (shiftF h0 (t12.toNat * 8)) (fun q18 => cond (decide (0 ≤ q18)) (k0) (cond (fits IntKind.i64 (t12 + 1)) (kn (t12 + 1)) (z)))) (z)) (z)) (z)) (cond (fits IntKind.i64 (t12 + 1)) (kn (t12 + 1)) (z))))) (z)) (z)) (k1)
def i_IsSum_l0 {β : Type} (z : β) (N : Nat) (list_n : Nat) (list_l : Nat) (list_c : Nat) (t10_n : Nat) (t10_l : Nat) (t10_c : Nat) (t11 : Int) (h0_n : Nat) (h0 : Nat → Int) (h1_0 : Int) (h1_1 : Nat → Int) (h1_2 : Nat → Int) : Nat → Int → β → β → β
  | 0, _, _, _ => z
  | m + 1, t12, k0, k1 => i_IsSum_l0_s z N list_n list_l list_c t10_n t10_l t10_c t11 h0_n h0 h1_0 h1_1 h1_2 t12 (fun t12 => i_IsSum_l0 z N list_n list_l list_c t10_n t10_l t10_c t11 h0_n h0 h1_0 h1_1 h1_2 m t12 k0 k1) k0 k1

/-- impl.IsSum -/
def i_IsSum {β : Type} (z : β) (N : Nat) (g_0 : Int) (g_1 : Nat → Int) (g_2 : Nat → Int) (list_n : Nat) (list_l : Nat) (list_c : Nat) (h0_n : Nat) (h0 : Nat → Int) (k0 : Bool → β) : β :=
  i_IsGrid z N g_0 g_1 g_2 (fun q11 => cond (!q11) (k0 false) (cond (list_l.ble 9223372036854775807) (i_IsSum_l0 z N list_n list_l list_c list_n list_l list_c (↑list_l : Int) h0_n h0 g_0 g_1 g_2 N 0 (k0 false) (k0 true)) (z)))

/-- laws.eqStateS, loop -/
def w_eqStateS_l0_s {β : Type} (z : β) (N : Nat) (a_n : Nat) (a_l : Nat) (a_c : Nat) (b_n : Nat) (b_l : Nat) (b_c : Nat) (h0_n : Nat) (h0 : Nat → Int) (h1_n : Nat) (h1 : Nat → Int) (i : Int) (kn : Int → β) (k0 : β) (k1 : β) : β :=
  cond (a_l.ble 9223372036854775807) (cond (decide (i < (↑a_l : Int))) (cond (a_n.beq h0_n && (decide (0 ≤ i) && decide (i < (↑a_l : Int)))) (cond (a_n.beq h0_n && (i.toNat * 8 + 8).ble h0_n) (cond (b_n.beq h1_n && (decide (0 ≤ i) && decide (i < (↑b_l : Int)))) (cond (b_n.beq h1_n && (i.toNat * 8 + 8).ble h1_n) (w_eqState z N (shiftF h0 (i.toNat * 8)) (shiftF h1 (i.toNat * 8)) (fun q15 => cond (!q15) (k0) (cond (fits IntKind.i64 (i + 1)) (kn (i + 1)) (z)))) (z)) (z)) (z)) (z)) (k1)) (z)
def w_eqStateS_l0 {β : Type} (z : β) (N : Nat) (a_n : Nat) (a_l : Nat) (a_c : Nat) (b_n : Nat) (b_l : Nat) (b_c : Nat) (h0_n : Nat) (h0 : Nat → Int) (h1_n : Nat) (h1 : Nat → Int) : Nat → Int → β → β → β
  | 0, _, _, _ => z
  | m + 1, i, k0, k1 => w_eqStateS_l0_s z N a_n a_l a_c b_n b_l b_c h0_n h0 h1_n h1 i (fun i => w_eqStateS_l0 z N a_n a_l a_c b_n b_l b_c h0_n h0 h1_n h1 m i k0 k1) k0 k1

/-- laws.eqStateS -/
def w_eqStateS {β : Type} (z : β) (N : Nat) (a_n : Nat) (a_l : Nat) (a_c : Nat) (b_n : Nat) (b_l : Nat) (b_c : Nat) (h0_n : Nat) (h0 : Nat → Int) (h1_n : Nat) (h1 : Nat → Int) (k0 : Bool → β) : β :=
  cond (a_l.ble 9223372036854775807) (cond (b_l.ble 9223372036854775807) (cond ((↑a_l : Int) != (↑b_l : Int)) (k0 false) (w_eqStateS_l0 z N a_n a_l a_c b_n b_l b_c h0_n h0 h1_n h1 N 0 (k0 false) (k0 true))) (z)) (z)

/-- laws.FnExactIsSum -/
def w_FnExactIsSum {β : Type} (z : β) (N : Nat) (aG_0 : Int) (aG_1 : Nat → Int) (aG_2 : Nat → Int) (aList_n : Nat) (aList_l : Nat) (aList_c : Nat) (h0_n : Nat) (h0 : Nat → Int) (k0 : Bool → β) : β :=
  w_szStateS z N aList_n aList_l aList_c 1048576 h0_n h0 (fun q11 => cond (decide (q11 < 0)) (k0 true) (w_toGrid z N aG_0 aG_1 aG_2 (fun q12 q13 => w_toStateS z N aList_n aList_l aList_c h0_n h0 (fun q14 q15 q16 q17 q18 => s_IsSum z N aG_0 q12 q13 q14 q15 q16 q17 q18 (fun q19 => w_toStateS z N aList_n aList_l aList_c h0_n h0 (fun q20 q21 q22 q23 q24 => w_toGrid z N aG_0 aG_1 aG_2 (fun q25 q26 => i_IsSum z N aG_0 q25 q26 q20 q21 q22 q23 q24 (fun q27 => cond (q27 != q19) (k0 false) (w_toStateS z N aList_n aList_l aList_c h0_n h0 (fun q28 q29 q30 q31 q32 => w_eqStateS z N q20 q21 q22 q28 q29 q30 q23 q24 q31 q32 (fun q33 => cond (!q33) (k0 false) (k0 true))))))))))))
end Go.AM
