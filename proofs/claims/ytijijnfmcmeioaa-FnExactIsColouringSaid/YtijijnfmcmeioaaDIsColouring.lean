/- A part of a proof about the given program: an abstract machine, what the given functions come to, and plain laws. -/
import Derived.Test.YtijijnfmcmeioaaDLowerState
import Derived.Test.YtijijnfmcmeioaaDIsMosaic
import Derived.Test.YtijijnfmcmeioaaDRelationsOf
import Derived.Test.YtijijnfmcmeioaaDCountTiles
set_option maxRecDepth 100000
namespace Go.AM
/-- laws.toInt64S, loop -/
def w_toInt64S_l0_s {β : Type} (z : β) (a_n : Nat) (a_l : Nat) (a_c : Nat) (out_n : Nat) (out_l : Nat) (out_c : Nat) (h0_n : Nat) (h0 : Nat → Int) (h1_n : Nat) (i : Int) (h1 : Nat → Int) (kn : Int → (Nat → Int) → β) (k0 : (Nat → Int) → β) : β :=
  cond (a_l.ble 9223372036854775807) (cond (decide (i < (↑a_l : Int))) (cond (a_n.beq h0_n && (decide (0 ≤ i) && decide (i < (↑a_l : Int)))) (cond (a_n.beq h0_n && i.toNat.blt h0_n) (cond (out_n.beq h1_n && (decide (0 ≤ i) && decide (i < (↑out_l : Int)))) (cond (out_n.beq h1_n && i.toNat.blt h1_n) (cond (fits IntKind.i64 (i + 1)) (kn (i + 1) (upd h1 i.toNat (h0 i.toNat))) (z)) (z)) (z)) (z)) (z)) (k0 h1)) (z)
def w_toInt64S_l0 {β : Type} (z : β) (a_n : Nat) (a_l : Nat) (a_c : Nat) (out_n : Nat) (out_l : Nat) (out_c : Nat) (h0_n : Nat) (h0 : Nat → Int) (h1_n : Nat) : Nat → Int → (Nat → Int) → ((Nat → Int) → β) → β
  | 0, _, _, _ => z
  | m + 1, i, h1, k0 => w_toInt64S_l0_s z a_n a_l a_c out_n out_l out_c h0_n h0 h1_n i h1 (fun i h1 => w_toInt64S_l0 z a_n a_l a_c out_n out_l out_c h0_n h0 h1_n m i h1 k0) k0

/-- laws.toInt64S -/
def w_toInt64S {β : Type} (z : β) (N : Nat) (a_n : Nat) (a_l : Nat) (a_c : Nat) (h0_n : Nat) (h0 : Nat → Int) (k0 : Nat → Nat → Nat → Nat → (Nat → Int) → β) : β :=
  cond (a_l.ble 9223372036854775807) (cond (decide ((↑a_l : Int) ≤ (↑a_l : Int)) && decide ((↑a_l : Int) ≤ 1073741824) && true && true) (w_toInt64S_l0 z a_n a_l a_c ((↑a_l : Int).toNat) ((↑a_l : Int).toNat) ((↑a_l : Int).toNat) h0_n h0 ((↑a_l : Int).toNat) N 0 (fun (x : Nat) => 0) (fun q8 => k0 ((↑a_l : Int).toNat) ((↑a_l : Int).toNat) ((↑a_l : Int).toNat) ((↑a_l : Int).toNat) q8)) (z)) (z)

/-- spec.l08Prime, loop -/
def s_l08Prime_l0_s {β : Type} (z : β) (p : Int) (k : Int) (kn : Int → β) (k0 : β) (k1 : β) : β :=
  cond (decide (k < p)) (cond (!k == 0) (cond (p.tmod k == 0) (k0) (cond (fits IntKind.i64 (k + 1)) (kn (k + 1)) (z))) (z)) (k1)
def s_l08Prime_l0 {β : Type} (z : β) (p : Int) : Nat → Int → β → β → β
  | 0, _, _, _ => z
  | m + 1, k, k0, k1 => s_l08Prime_l0_s z p k (fun k => s_l08Prime_l0 z p m k k0 k1) k0 k1

/-- spec.l08Prime -/
def s_l08Prime {β : Type} (z : β) (N : Nat) (p : Int) (k0 : Bool → β) : β :=
  s_l01In z N p 3 97 (fun q4 => cond (!q4) (k0 false) (s_l08Prime_l0 z p N 2 (k0 false) (k0 true)))

/-- spec.l08Code -/
def s_l08Code {β : Type} (z : β) (N : Nat) (g_0 : Int) (g_1 : Nat → Int) (g_2 : Nat → Int) (p : Int) (k0 : Int → β) : β :=
  s_l01Is z N g_0 g_1 g_2 (fun q7 => cond (!q7) (k0 1) (s_l08Prime z N p (fun q8 => cond (!q8) (k0 2) (k0 0))))

/-- spec.IsColouring, loop -/
def s_IsColouring_l0_s {β : Type} (z : β) (N : Nat) (p : Int) (colours_n : Nat) (colours_l : Nat) (colours_c : Nat) (h0_n : Nat) (h0 : Nat → Int) (h1_0 : Int) (h1_1 : Nat → Int) (h1_2 : Nat → Int) (code : Int) (i : Int) (kn : Int → Int → β) (k0 : Int → β) : β :=
  cond (colours_l.ble 9223372036854775807) (cond (decide (i < (↑colours_l : Int))) (cond (code == 0) (cond (colours_n.beq h0_n && (decide (0 ≤ i) && decide (i < (↑colours_l : Int)))) (cond (colours_n.beq h0_n && i.toNat.blt h0_n) (cond (fits IntKind.i64 (p - 1)) (s_l01In z N (h0 i.toNat) 0 (p - 1) (fun q15 => cond (!q15) (cond (fits IntKind.i64 (i + 1)) (kn 2 (i + 1)) (z)) (cond (fits IntKind.i64 (i + 1)) (kn code (i + 1)) (z)))) (z)) (z)) (z)) (k0 code)) (k0 code)) (z)
def s_IsColouring_l0 {β : Type} (z : β) (N : Nat) (p : Int) (colours_n : Nat) (colours_l : Nat) (colours_c : Nat) (h0_n : Nat) (h0 : Nat → Int) (h1_0 : Int) (h1_1 : Nat → Int) (h1_2 : Nat → Int) : Nat → Int → Int → (Int → β) → β
  | 0, _, _, _ => z
  | m + 1, code, i, k0 => s_IsColouring_l0_s z N p colours_n colours_l colours_c h0_n h0 h1_0 h1_1 h1_2 code i (fun code i => s_IsColouring_l0 z N p colours_n colours_l colours_c h0_n h0 h1_0 h1_1 h1_2 m code i k0) k0

/-- spec.l08Good, loop -/
def s_l08Good_l1_s {β : Type} (z : β) (p : Int) (colours_n : Nat) (colours_l : Nat) (colours_c : Nat) (r_ : Int) (list_n : Nat) (list_l : Nat) (list_c : Nat) (h0_n : Nat) (h0 : Nat → Int) (h1_0 : Int) (h1_1 : Nat → Int) (h1_2 : Nat → Int) (h2 : List Int) (sum : Int) (i : Int) (kn : Int → Int → β) (k0 : Int → β) : β :=
  cond (list_l.ble 9223372036854775807) (cond (decide (i < (↑list_l : Int))) (cond (list_n.beq h2.length && (decide (0 ≤ i) && decide (i < (↑list_l : Int)))) (cond (list_n.beq h2.length && i.toNat.blt h2.length) (cond (colours_n.beq h0_n && (decide (0 ≤ h2[i.toNat]?.getD 0) && decide (h2[i.toNat]?.getD 0 < (↑colours_l : Int)))) (cond (colours_n.beq h0_n && (h2[i.toNat]?.getD 0).toNat.blt h0_n) (cond (fits IntKind.i64 (2 * i.tmod 2)) (cond (fits IntKind.i64 (1 - 2 * i.tmod 2)) (cond (fits IntKind.i64 (h0 (h2[i.toNat]?.getD 0).toNat * (1 - 2 * i.tmod 2))) (cond (fits IntKind.i64 (sum + h0 (h2[i.toNat]?.getD 0).toNat * (1 - 2 * i.tmod 2))) (cond (fits IntKind.i64 (i + 1)) (kn (sum + h0 (h2[i.toNat]?.getD 0).toNat * (1 - 2 * i.tmod 2)) (i + 1)) (z)) (z)) (z)) (z)) (z)) (z)) (z)) (z)) (z)) (k0 sum)) (z)
def s_l08Good_l1 {β : Type} (z : β) (p : Int) (colours_n : Nat) (colours_l : Nat) (colours_c : Nat) (r_ : Int) (list_n : Nat) (list_l : Nat) (list_c : Nat) (h0_n : Nat) (h0 : Nat → Int) (h1_0 : Int) (h1_1 : Nat → Int) (h1_2 : Nat → Int) (h2 : List Int) : Nat → Int → Int → (Int → β) → β
  | 0, _, _, _ => z
  | m + 1, sum, i, k0 => s_l08Good_l1_s z p colours_n colours_l colours_c r_ list_n list_l list_c h0_n h0 h1_0 h1_1 h1_2 h2 sum i (fun sum i => s_l08Good_l1 z p colours_n colours_l colours_c r_ list_n list_l list_c h0_n h0 h1_0 h1_1 h1_2 h2 m sum i k0) k0

/-- spec.l08Good, loop -/
def s_l08Good_l0_s {β : Type} (z : β) (N : Nat) (p : Int) (colours_n : Nat) (colours_l : Nat) (colours_c : Nat) (h0_n : Nat) (h0 : Nat → Int) (h1_0 : Int) (h1_1 : Nat → Int) (h1_2 : Nat → Int) (r_ : Int) (kn : Int → β) (k0 : β) (k1 : β) : β :=
  cond (fits IntKind.i64 (h1_0 - 1)) (cond (decide (r_ < h1_0 - 1)) (s_l08Relation z N h1_0 h1_1 h1_2 r_ (fun q14 q15 q16 q17 => s_l08Good_l1 z p colours_n colours_l colours_c r_ q14 q15 q16 h0_n h0 h1_0 h1_1 h1_2 q17 N 0 0 (fun q18 => cond (!p == 0) (cond (q18.tmod p != 0) (k0) (cond (fits IntKind.i64 (r_ + 1)) (kn (r_ + 1)) (z))) (z)))) (k1)) (z)
def s_l08Good_l0 {β : Type} (z : β) (N : Nat) (p : Int) (colours_n : Nat) (colours_l : Nat) (colours_c : Nat) (h0_n : Nat) (h0 : Nat → Int) (h1_0 : Int) (h1_1 : Nat → Int) (h1_2 : Nat → Int) : Nat → Int → β → β → β
  | 0, _, _, _ => z
  | m + 1, r_, k0, k1 => s_l08Good_l0_s z N p colours_n colours_l colours_c h0_n h0 h1_0 h1_1 h1_2 r_ (fun r_ => s_l08Good_l0 z N p colours_n colours_l colours_c h0_n h0 h1_0 h1_1 h1_2 m r_ k0 k1) k0 k1

/-- spec.l08Good -/
def s_l08Good {β : Type} (z : β) (N : Nat) (g_0 : Int) (g_1 : Nat → Int) (g_2 : Nat → Int) (p : Int) (colours_n : Nat) (colours_l : Nat) (colours_c : Nat) (h0_n : Nat) (h0 : Nat → Int) (k0 : Bool → β) : β :=
  s_l08Good_l0 z N p colours_n colours_l colours_c h0_n h0 g_0 g_1 g_2 N 0 (k0 false) (k0 true)

/-- spec.IsColouring -/
def s_IsColouring {β : Type} (z : β) (N : Nat) (g_0 : Int) (g_1 : Nat → Int) (g_2 : Nat → Int) (p : Int) (colours_n : Nat) (colours_l : Nat) (colours_c : Nat) (h0_n : Nat) (h0 : Nat → Int) (k0 : Bool → Int → β) : β :=
  s_l08Code z N g_0 g_1 g_2 p (fun q12 => cond (q12 == 0) (cond (colours_l.ble 9223372036854775807) (cond ((↑colours_l : Int) != g_0) (s_IsColouring_l0 z N p colours_n colours_l colours_c h0_n h0 g_0 g_1 g_2 N 2 0 (fun q13 => cond (q13 != 0) (k0 false q13) (s_l08Good z N g_0 g_1 g_2 p colours_n colours_l colours_c h0_n h0 (fun q14 => k0 q14 0)))) (s_IsColouring_l0 z N p colours_n colours_l colours_c h0_n h0 g_0 g_1 g_2 N q12 0 (fun q13 => cond (q13 != 0) (k0 false q13) (s_l08Good z N g_0 g_1 g_2 p colours_n colours_l colours_c h0_n h0 (fun q14 => k0 q14 0))))) (z)) (s_IsColouring_l0 z N p colours_n colours_l colours_c h0_n h0 g_0 g_1 g_2 N q12 0 (fun q13 => cond (q13 != 0) (k0 false q13) (s_l08Good z N g_0 g_1 g_2 p colours_n colours_l colours_c h0_n h0 (fun q14 => k0 q14 0)))))

/-- impl.isPrime, loop -/
def i_isPrime_l0_s {β : Type} (z : β) (p : Int) (d : Int) (kn : Int → β) (k0 : β) (k1 : β) : β :=
  cond (fits IntKind.i64 (d * d)) (cond (decide (d * d ≤ p)) (cond (!d == 0) (cond (p.tmod d == 0) (k0) (cond (fits IntKind.i64 (d + 1)) (kn (d + 1)) (z))) (z)) (k1)) (z)
def i_isPrime_l0 {β : Type} (z : β) (p : Int) : Nat → Int → β → β → β
  | 0, _, _, _ => z
  | m + 1, d, k0, k1 => i_isPrime_l0_s z p d (fun d => i_isPrime_l0 z p m d k0 k1) k0 k1

/-- impl.isPrime -/
def i_isPrime {β : Type} (z : β) (N : Nat) (p : Int) (k0 : Bool → β) : β :=
  i_within z N p 3 97 (fun q4 => cond (!q4) (k0 false) (i_isPrime_l0 z p N 2 (k0 false) (k0 true)))

/-- impl.IsColouring$1 -/
def i_IsColouring_1 {β : Type} (z : β) (N : Nat) (c : Int) (h0 : Int) (k0 : Bool → β) : β :=
  cond (fits IntKind.i64 (h0 - 1)) (i_within z N c 0 (h0 - 1) (fun q5 => k0 (!q5))) (z)

/-- slices.IndexFunc[[]int64,int64], loop -/
def slices_IndexFunc_int64_int64_l0_s {β : Type} (z : β) (N : Nat) (s_n : Nat) (s_l : Nat) (s_c : Nat) (t7 : Int) (h0_n : Nat) (h0 : Nat → Int) (h1 : Int) (t8 : Int) (kn : Int → β) (k0 : Int → β) (k1 : β) : β :=
  cond (decide (t8 < t7)) (cond (s_n.beq h0_n && (decide (0 ≤ t8) && decide (t8 < (↑s_l : Int)))) (cond (s_n.beq h0_n && t8.toNat.blt h0_n) (i_IsColouring_1 z N (h0 t8.toNat) h1 (fun q12 => cond (q12) (k0 t8) (cond (fits IntKind.i64 (t8 + 1)) (kn (t8 + 1)) (z)))) (z)) (z)) (k1)
def slices_IndexFunc_int64_int64_l0 {β : Type} (z : β) (N : Nat) (s_n : Nat) (s_l : Nat) (s_c : Nat) (t7 : Int) (h0_n : Nat) (h0 : Nat → Int) (h1 : Int) : Nat → Int → (Int → β) → β → β
  | 0, _, _, _ => z
  | m + 1, t8, k0, k1 => slices_IndexFunc_int64_int64_l0_s z N s_n s_l s_c t7 h0_n h0 h1 t8 (fun t8 => slices_IndexFunc_int64_int64_l0 z N s_n s_l s_c t7 h0_n h0 h1 m t8 k0 k1) k0 k1

/-- slices.IndexFunc[[]int64,int64] -/
def slices_IndexFunc_int64_int64 {β : Type} (z : β) (N : Nat) (s_n : Nat) (s_l : Nat) (s_c : Nat) (h0_n : Nat) (h0 : Nat → Int) (h1 : Int) (k0 : Int → β) : β :=
  cond (s_l.ble 9223372036854775807) (slices_IndexFunc_int64_int64_l0 z N s_n s_l s_c (↑s_l : Int) h0_n h0 h1 N 0 (fun q9 => k0 q9) (k0 (-1))) (z)

/-- slices.ContainsFunc[[]int64,int64] -/
def slices_ContainsFunc_int64_int64 {β : Type} (z : β) (N : Nat) (s_n : Nat) (s_l : Nat) (s_c : Nat) (h0_n : Nat) (h0 : Nat → Int) (h1 : Int) (k0 : Bool → β) : β :=
  slices_IndexFunc_int64_int64 z N s_n s_l s_c h0_n h0 h1 (fun q9 => k0 (decide (0 ≤ q9)))

/-- (impl.Grid).equations, loop -/
def i_Grid_equations_l1_s {β : Type} (z : β) (out_n : Nat) (out_l : Nat) (out_c : Nat) (line_n : Nat) (line_l : Nat) (line_c : Nat) (t12_n : Nat) (t12_l : Nat) (t12_c : Nat) (t13 : Int) (t14 : Int) (t21_r : Nat) (t21_o : Nat) (t21_n : Nat) (t21_l : Nat) (t21_c : Nat) (t22 : Int) (h0_0 : Int) (h0_1 : Nat → Int) (h0_2 : Nat → Int) (h1 : List (List Int)) (h2 : List (Nat × Nat)) (h3 : List (Nat × Nat)) (h4 : List (List Int)) (h5_n : Nat) (sign : Int) (t23 : Int) (h5 : Nat → Int) (kn : Int → Int → (Nat → Int) → β) (k0 : (Nat → Int) → β) : β :=
  cond (decide (t23 < t22)) (cond (t21_n.beq (h4[t21_r]?.getD []).length && (decide (0 ≤ t23) && decide (t23 < (↑t21_l : Int)))) (cond (t21_n.beq (h4[t21_r]?.getD []).length && (addO t21_o t23.toNat).blt (h4[t21_r]?.getD []).length) (cond (line_n.beq h5_n && (decide (0 ≤ (h4[t21_r]?.getD [])[addO t21_o t23.toNat]?.getD 0) && decide ((h4[t21_r]?.getD [])[addO t21_o t23.toNat]?.getD 0 < (↑line_l : Int)))) (cond (line_n.beq h5_n && ((h4[t21_r]?.getD [])[addO t21_o t23.toNat]?.getD 0).toNat.blt h5_n) (cond (fits IntKind.i64 (-sign)) (cond (fits IntKind.i64 (t23 + 1)) (kn (-sign) (t23 + 1) (upd h5 ((h4[t21_r]?.getD [])[addO t21_o t23.toNat]?.getD 0).toNat sign)) (z)) (z)) (z)) (z)) (z)) (z)) (k0 h5)
def i_Grid_equations_l1 {β : Type} (z : β) (out_n : Nat) (out_l : Nat) (out_c : Nat) (line_n : Nat) (line_l : Nat) (line_c : Nat) (t12_n : Nat) (t12_l : Nat) (t12_c : Nat) (t13 : Int) (t14 : Int) (t21_r : Nat) (t21_o : Nat) (t21_n : Nat) (t21_l : Nat) (t21_c : Nat) (t22 : Int) (h0_0 : Int) (h0_1 : Nat → Int) (h0_2 : Nat → Int) (h1 : List (List Int)) (h2 : List (Nat × Nat)) (h3 : List (Nat × Nat)) (h4 : List (List Int)) (h5_n : Nat) : Nat → Int → Int → (Nat → Int) → ((Nat → Int) → β) → β
  | 0, _, _, _, _ => z
  | m + 1, sign, t23, h5, k0 => i_Grid_equations_l1_s z out_n out_l out_c line_n line_l line_c t12_n t12_l t12_c t13 t14 t21_r t21_o t21_n t21_l t21_c t22 h0_0 h0_1 h0_2 h1 h2 h3 h4 h5_n sign t23 h5 (fun sign t23 h5 => i_Grid_equations_l1 z out_n out_l out_c line_n line_l line_c t12_n t12_l t12_c t13 t14 t21_r t21_o t21_n t21_l t21_c t22 h0_0 h0_1 h0_2 h1 h2 h3 h4 h5_n m sign t23 h5 k0) k0

/-- (impl.Grid).equations, loop -/
def i_Grid_equations_l0_s {β : Type} (z : β) (N : Nat) (t12_n : Nat) (t12_l : Nat) (t12_c : Nat) (t13 : Int) (h0_0 : Int) (h0_1 : Nat → Int) (h0_2 : Nat → Int) (h3 : List (Nat × Nat)) (h4 : List (List Int)) (out_n : Nat) (out_l : Nat) (out_c : Nat) (t14 : Int) (h1 : List (List Int)) (h2 : List (Nat × Nat)) (kn : Nat → Nat → Nat → Int → (List (List Int)) → (List (Nat × Nat)) → β) (k0 : Nat → Nat → Nat → (List (List Int)) → (List (Nat × Nat)) → β) : β :=
  cond (decide (t14 < t13)) (cond (t12_n.beq h3.length && (decide (0 ≤ t14) && decide (t14 < (↑t12_l : Int)))) (cond (t12_n.beq h3.length && t14.toNat.blt h3.length) (i_Grid_n z N h0_0 h0_1 h0_2 (cond (decide (0 ≤ h0_0) && decide (h0_0 ≤ h0_0) && decide (h0_0 ≤ 1073741824) && true && true) (cond ((h3[t14.toNat]?.getD (0, 0)).snd.ble 9223372036854775807) (i_Grid_equations_l1 z out_n out_l out_c h0_0.toNat h0_0.toNat h0_0.toNat t12_n t12_l t12_c t13 t14 ((h3[t14.toNat]?.getD (0, 0)).fst) 0 ((h3[t14.toNat]?.getD (0, 0)).snd) ((h3[t14.toNat]?.getD (0, 0)).snd) ((h3[t14.toNat]?.getD (0, 0)).snd) (↑(h3[t14.toNat]?.getD (0, 0)).snd : Int) h0_0 h0_1 h0_2 h1 h2 h3 h4 h0_0.toNat N 1 0 (fun (x : Nat) => 0) (fun q19 => cond (h0_0.toNat.beq (List.map q19 (List.range h0_0.toNat)).length && (h0_0.toNat.beq h0_0.toNat && (h0_0.toNat.beq h0_0.toNat && true))) (cond (out_n.beq h2.length && true) (cond ((out_l + 1).ble 1099511627776 && ((out_l + 1) * 24).ble 1099511627776) (cond ((out_l + 1).ble out_c) (cond (out_n.beq h2.length && (0 + out_l + 1).ble h2.length) (cond (fits IntKind.i64 (t14 + 1)) (kn out_n (out_l + 1) out_c (t14 + 1) (h1 ++ [List.map q19 (List.range h0_0.toNat)]) (List.take (0 + out_l) h2 ++ ([(h1.length, h0_0.toNat)] ++ List.drop (0 + out_l + 1) h2))) (z)) (z)) (cond (out_l.beq h2.length) (cond (fits IntKind.i64 (t14 + 1)) (kn ((h2 ++ [(h1.length, h0_0.toNat)]).length) (out_l + 1) (out_l + 1) (t14 + 1) (h1 ++ [List.map q19 (List.range h0_0.toNat)]) (h2 ++ [(h1.length, h0_0.toNat)])) (z)) (z))) (z)) (z)) (z))) (z)) (z))) (z)) (z)) (k0 out_n out_l out_c h1 h2)
def i_Grid_equations_l0 {β : Type} (z : β) (N : Nat) (t12_n : Nat) (t12_l : Nat) (t12_c : Nat) (t13 : Int) (h0_0 : Int) (h0_1 : Nat → Int) (h0_2 : Nat → Int) (h3 : List (Nat × Nat)) (h4 : List (List Int)) : Nat → Nat → Nat → Nat → Int → (List (List Int)) → (List (Nat × Nat)) → (Nat → Nat → Nat → (List (List Int)) → (List (Nat × Nat)) → β) → β
  | 0, _, _, _, _, _, _, _ => z
  | m + 1, out_n, out_l, out_c, t14, h1, h2, k0 => i_Grid_equations_l0_s z N t12_n t12_l t12_c t13 h0_0 h0_1 h0_2 h3 h4 out_n out_l out_c t14 h1 h2 (fun out_n out_l out_c t14 h1 h2 => i_Grid_equations_l0 z N t12_n t12_l t12_c t13 h0_0 h0_1 h0_2 h3 h4 m out_n out_l out_c t14 h1 h2 k0) k0

/-- (impl.Grid).equations -/
def i_Grid_equations {β : Type} (z : β) (N : Nat) (g_0 : Int) (g_1 : Nat → Int) (g_2 : Nat → Int) (k0 : Nat → Nat → Nat → (List (Nat × Nat)) → (List (List Int)) → β) : β :=
  i_Grid_relations z N g_0 g_1 g_2 (fun q6 q7 q8 q9 q10 => cond (q7.ble 9223372036854775807) (i_Grid_equations_l0 z N q6 q7 q8 (↑q7 : Int) g_0 g_1 g_2 q9 q10 N 0 0 0 0 (List.replicate 0 []) (List.map (fun (i : Nat) => (i, 0)) (List.range 0)) (fun q11 q12 q13 q14 q15 => k0 q11 q12 q13 q15 q14)) (z))

/-- impl.IsColouring, loop -/
def i_IsColouring_l1_s {β : Type} (z : β) (colours_n : Nat) (colours_l : Nat) (colours_c : Nat) (t34_n : Nat) (t34_l : Nat) (t34_c : Nat) (t35 : Int) (t36 : Int) (t40_r : Nat) (t40_o : Nat) (t40_n : Nat) (t40_l : Nat) (t40_c : Nat) (t41 : Int) (h0_n : Nat) (h0 : Nat → Int) (h1_0 : Int) (h1_1 : Nat → Int) (h1_2 : Nat → Int) (h2 : Int) (h3 : List (Nat × Nat)) (h4 : List (List Int)) (sum : Int) (t42 : Int) (kn : Int → Int → β) (k0 : Int → β) : β :=
  cond (decide (t42 < t41)) (cond (t40_n.beq (h4[t40_r]?.getD []).length && (decide (0 ≤ t42) && decide (t42 < (↑t40_l : Int)))) (cond (t40_n.beq (h4[t40_r]?.getD []).length && (addO t40_o t42.toNat).blt (h4[t40_r]?.getD []).length) (cond (colours_n.beq h0_n && (decide (0 ≤ t42) && decide (t42 < (↑colours_l : Int)))) (cond (colours_n.beq h0_n && t42.toNat.blt h0_n) (cond (fits IntKind.i64 ((h4[t40_r]?.getD [])[addO t40_o t42.toNat]?.getD 0 * h0 t42.toNat)) (cond (fits IntKind.i64 (sum + (h4[t40_r]?.getD [])[addO t40_o t42.toNat]?.getD 0 * h0 t42.toNat)) (cond (fits IntKind.i64 (t42 + 1)) (kn (sum + (h4[t40_r]?.getD [])[addO t40_o t42.toNat]?.getD 0 * h0 t42.toNat) (t42 + 1)) (z)) (z)) (z)) (z)) (z)) (z)) (z)) (k0 sum)
def i_IsColouring_l1 {β : Type} (z : β) (colours_n : Nat) (colours_l : Nat) (colours_c : Nat) (t34_n : Nat) (t34_l : Nat) (t34_c : Nat) (t35 : Int) (t36 : Int) (t40_r : Nat) (t40_o : Nat) (t40_n : Nat) (t40_l : Nat) (t40_c : Nat) (t41 : Int) (h0_n : Nat) (h0 : Nat → Int) (h1_0 : Int) (h1_1 : Nat → Int) (h1_2 : Nat → Int) (h2 : Int) (h3 : List (Nat × Nat)) (h4 : List (List Int)) : Nat → Int → Int → (Int → β) → β
  | 0, _, _, _ => z
  | m + 1, sum, t42, k0 => i_IsColouring_l1_s z colours_n colours_l colours_c t34_n t34_l t34_c t35 t36 t40_r t40_o t40_n t40_l t40_c t41 h0_n h0 h1_0 h1_1 h1_2 h2 h3 h4 sum t42 (fun sum t42 => i_IsColouring_l1 z colours_n colours_l colours_c t34_n t34_l t34_c t35 t36 t40_r t40_o t40_n t40_l t40_c t41 h0_n h0 h1_0 h1_1 h1_2 h2 h3 h4 m sum t42 k0) k0

/-- impl.IsColouring, loop -/
def i_IsColouring_l0_s {β : Type} (z : β) (N : Nat) (colours_n : Nat) (colours_l : Nat) (colours_c : Nat) (t34_n : Nat) (t34_l : Nat) (t34_c : Nat) (t35 : Int) (h0_n : Nat) (h0 : Nat → Int) (h1_0 : Int) (h1_1 : Nat → Int) (h1_2 : Nat → Int) (h2 : Int) (h3 : List (Nat × Nat)) (h4 : List (List Int)) (t36 : Int) (kn : Int → β) (k0 : β) (k1 : β) : β :=
  cond (decide (t36 < t35)) (cond (t34_n.beq h3.length && (decide (0 ≤ t36) && decide (t36 < (↑t34_l : Int)))) (cond (t34_n.beq h3.length && t36.toNat.blt h3.length) (cond ((h3[t36.toNat]?.getD (0, 0)).snd.ble 9223372036854775807) (i_IsColouring_l1 z colours_n colours_l colours_c t34_n t34_l t34_c t35 t36 ((h3[t36.toNat]?.getD (0, 0)).fst) 0 ((h3[t36.toNat]?.getD (0, 0)).snd) ((h3[t36.toNat]?.getD (0, 0)).snd) ((h3[t36.toNat]?.getD (0, 0)).snd) (↑(h3[t36.toNat]?.getD (0, 0)).snd : Int) h0_n h0 h1_0 h1_1 h1_2 h2 h3 h4 N 0 0 (fun q20 => cond (!h2 == 0) (cond (q20.tmod h2 != 0) (k0) (cond (fits IntKind.i64 (t36 + 1)) (kn (t36 + 1)) (z))) (z))) (z)) (z)) (z)) (k1)
def i_IsColouring_l0 {β : Type} (z : β) (N : Nat) (colours_n : Nat) (colours_l : Nat) (colours_c : Nat) (t34_n : Nat) (t34_l : Nat) (t34_c : Nat) (t35 : Int) (h0_n : Nat) (h0 : Nat → Int) (h1_0 : Int) (h1_1 : Nat → Int) (h1_2 : Nat → Int) (h2 : Int) (h3 : List (Nat × Nat)) (h4 : List (List Int)) : Nat → Int → β → β → β
  | 0, _, _, _ => z
  | m + 1, t36, k0, k1 => i_IsColouring_l0_s z N colours_n colours_l colours_c t34_n t34_l t34_c t35 h0_n h0 h1_0 h1_1 h1_2 h2 h3 h4 t36 (fun t36 => i_IsColouring_l0 z N colours_n colours_l colours_c t34_n t34_l t34_c t35 h0_n h0 h1_0 h1_1 h1_2 h2 h3 h4 m t36 k0 k1) k0 k1

/-- impl.IsColouring -/
def i_IsColouring {β : Type} (z : β) (N : Nat) (g_0 : Int) (g_1 : Nat → Int) (g_2 : Nat → Int) (p : Int) (colours_n : Nat) (colours_l : Nat) (colours_c : Nat) (h0_n : Nat) (h0 : Nat → Int) (k0 : Bool → Int → β) : β :=
  i_IsGrid z N g_0 g_1 g_2 (fun q12 => cond (!q12) (k0 false 1) (i_isPrime z N p (fun q13 => cond (!q13) (k0 false 2) (cond (colours_l.ble 9223372036854775807) (i_Grid_n z N g_0 g_1 g_2 (cond ((↑colours_l : Int) != g_0) (k0 false 2) (slices_ContainsFunc_int64_int64 z N colours_n colours_l colours_c h0_n h0 p (fun q14 => cond (q14) (k0 false 2) (i_Grid_equations z N g_0 g_1 g_2 (fun q15 q16 q17 q18 q19 => cond (q16.ble 9223372036854775807) (i_IsColouring_l0 z N colours_n colours_l colours_c q15 q16 q17 (↑q16 : Int) h0_n h0 g_0 g_1 g_2 p q18 q19 N 0 (k0 false 0) (k0 true 0)) (z))))))) (z)))))

/-- laws.FnExactIsColouring -/
def w_FnExactIsColouring {β : Type} (z : β) (N : Nat) (aG_0 : Int) (aG_1 : Nat → Int) (aG_2 : Nat → Int) (aP : Int) (aColours_n : Nat) (aColours_l : Nat) (aColours_c : Nat) (h0_n : Nat) (h0 : Nat → Int) (k0 : Bool → β) : β :=
  cond (aColours_l.ble 9223372036854775807) (cond (decide (1048576 < (↑aColours_l : Int))) (k0 true) (w_toGrid z N aG_0 aG_1 aG_2 (fun q12 q13 => w_toInt64S z N aColours_n aColours_l aColours_c h0_n h0 (fun q14 q15 q16 q17 q18 => s_IsColouring z N aG_0 q12 q13 aP q14 q15 q16 q17 q18 (fun q19 q20 => w_toInt64S z N aColours_n aColours_l aColours_c h0_n h0 (fun q21 q22 q23 q24 q25 => w_toGrid z N aG_0 aG_1 aG_2 (fun q26 q27 => i_IsColouring z N aG_0 q26 q27 aP q21 q22 q23 q24 q25 (fun q28 q29 => cond (q28 != q19) (k0 false) (cond (q29 != q20) (k0 false) (w_toInt64S z N aColours_n aColours_l aColours_c h0_n h0 (fun q30 q31 q32 q33 q34 => w_eqInt64S_s10 z N q21 q22 q23 q30 q31 q32 q24 q25 q33 q34 (fun q35 => cond (!q35) (k0 false) (k0 true))))))))))))) (z)
end Go.AM
