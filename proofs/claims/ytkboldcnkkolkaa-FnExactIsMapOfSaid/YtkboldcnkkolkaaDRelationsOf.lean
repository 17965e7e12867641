/- A part of a proof about the given program: an abstract machine, what the given functions come to, and plain laws. -/
import Derived.Test.YtkboldcnkkolkaaDLowerState
import Derived.Test.YtkboldcnkkolkaaDIsMosaic
set_option maxRecDepth 100000
namespace Go.AM
/-- spec.l08Relation, loop -/
def s_l08Relation_l0_s {β : Type} (z : β) (r_ : Int) (h0_0 : Int) (h0_1 : Nat → Int) (h0_2 : Nat → Int) (out_n : Nat) (out_l : Nat) (out_c : Nat) (i : Int) (h1 : List Int) (kn : Nat → Nat → Nat → Int → (List Int) → β) (k0 : Nat → Nat → Nat → (List Int) → β) : β :=
  cond (decide (i < h0_0)) (cond (decide (0 ≤ i) && decide (i < (↑8 : Int))) (cond (i.toNat.blt 8) (cond (decide (0 ≤ i) && decide (i < (↑8 : Int))) (cond (i.toNat.blt 8) (cond (decide (h0_1 i.toNat ≤ r_) != decide (h0_2 i.toNat ≤ r_)) (cond (out_n.beq h1.length && true) (cond ((out_l + 1).ble 1099511627776 && ((out_l + 1) * 8).ble 1099511627776) (cond ((out_l + 1).ble out_c) (cond (out_n.beq h1.length && (0 + out_l + 1).ble h1.length) (cond (fits IntKind.i64 (i + 1)) (kn out_n (out_l + 1) out_c (i + 1) (List.take (0 + out_l) h1 ++ (fromTo ((List.replicate 1 0).set 0 i) 0 1 ++ List.drop (0 + out_l + 1) h1))) (z)) (z)) (cond (out_l.beq h1.length) (cond (fits IntKind.i64 (i + 1)) (kn ((h1 ++ fromTo ((List.replicate 1 0).set 0 i) 0 1).length) (out_l + 1) (out_l + 1) (i + 1) (h1 ++ fromTo ((List.replicate 1 0).set 0 i) 0 1)) (z)) (z))) (z)) (z)) (cond (fits IntKind.i64 (i + 1)) (kn out_n out_l out_c (i + 1) h1) (z))) (z)) (z)) (z)) (z)) (k0 out_n out_l out_c h1)
def s_l08Relation_l0 {β : Type} (z : β) (r_ : Int) (h0_0 : Int) (h0_1 : Nat → Int) (h0_2 : Nat → Int) : Nat → Nat → Nat → Nat → Int → (List Int) → (Nat → Nat → Nat → (List Int) → β) → β
  | 0, _, _, _, _, _, _ => z
  | m + 1, out_n, out_l, out_c, i, h1, k0 => s_l08Relation_l0_s z r_ h0_0 h0_1 h0_2 out_n out_l out_c i h1 (fun out_n out_l out_c i h1 => s_l08Relation_l0 z r_ h0_0 h0_1 h0_2 m out_n out_l out_c i h1 k0) k0

/-- spec.l08Relation -/
def s_l08Relation {β : Type} (z : β) (N : Nat) (g_0 : Int) (g_1 : Nat → Int) (g_2 : Nat → Int) (r_ : Int) (k0 : Nat → Nat → Nat → (List Int) → β) : β :=
  s_l08Relation_l0 z r_ g_0 g_1 g_2 N 0 0 0 0 (List.replicate 0 0) (fun q7 q8 q9 q10 => k0 q7 q8 q9 q10)

/-- spec.RelationsOf, loop -/
def s_RelationsOf_l0_s {β : Type} (z : β) (N : Nat) (h0_0 : Int) (h0_1 : Nat → Int) (h0_2 : Nat → Int) (out_n : Nat) (out_l : Nat) (out_c : Nat) (r_ : Int) (h1 : List (List Int)) (h2 : List (Nat × Nat)) (kn : Nat → Nat → Nat → Int → (List (List Int)) → (List (Nat × Nat)) → β) (k0 : Nat → Nat → Nat → (List (List Int)) → (List (Nat × Nat)) → β) : β :=
  cond (fits IntKind.i64 (h0_0 - 1)) (cond (decide (r_ < h0_0 - 1)) (s_l08Relation z N h0_0 h0_1 h0_2 r_ (fun q13 q14 q15 q16 => cond (q13.beq q16.length && (q14.beq q13 && (q15.beq q14 && true))) (cond (out_n.beq h2.length && true) (cond ((out_l + 1).ble 1099511627776 && ((out_l + 1) * 24).ble 1099511627776) (cond ((out_l + 1).ble out_c) (cond (out_n.beq h2.length && (0 + out_l + 1).ble h2.length) (cond (fits IntKind.i64 (r_ + 1)) (kn out_n (out_l + 1) out_c (r_ + 1) (h1 ++ [q16]) (List.take (0 + out_l) h2 ++ ([(h1.length, q14)] ++ List.drop (0 + out_l + 1) h2))) (z)) (z)) (cond (out_l.beq h2.length) (cond (fits IntKind.i64 (r_ + 1)) (kn ((h2 ++ [(h1.length, q14)]).length) (out_l + 1) (out_l + 1) (r_ + 1) (h1 ++ [q16]) (h2 ++ [(h1.length, q14)])) (z)) (z))) (z)) (z)) (z))) (k0 out_n out_l out_c h1 h2)) (z)
def s_RelationsOf_l0 {β : Type} (z : β) (N : Nat) (h0_0 : Int) (h0_1 : Nat → Int) (h0_2 : Nat → Int) : Nat → Nat → Nat → Nat → Int → (List (List Int)) → (List (Nat × Nat)) → (Nat → Nat → Nat → (List (List Int)) → (List (Nat × Nat)) → β) → β
  | 0, _, _, _, _, _, _, _ => z
  | m + 1, out_n, out_l, out_c, r_, h1, h2, k0 => s_RelationsOf_l0_s z N h0_0 h0_1 h0_2 out_n out_l out_c r_ h1 h2 (fun out_n out_l out_c r_ h1 h2 => s_RelationsOf_l0 z N h0_0 h0_1 h0_2 m out_n out_l out_c r_ h1 h2 k0) k0

/-- spec.RelationsOf -/
def s_RelationsOf {β : Type} (z : β) (N : Nat) (g_0 : Int) (g_1 : Nat → Int) (g_2 : Nat → Int) (k0 : Int → β) (k1 : Nat → Nat → Nat → Int → (List (Nat × Nat)) → (List (List Int)) → β) : β :=
  s_l01Is z N g_0 g_1 g_2 (fun q6 => cond (!q6) (k0 1) (s_RelationsOf_l0 z N g_0 g_1 g_2 N 0 0 0 0 (List.replicate 0 []) (List.map (fun (i : Nat) => (i, 0)) (List.range 0)) (fun q7 q8 q9 q10 q11 => k1 q7 q8 q9 0 q11 q10)))

/-- (impl.Grid).relations, loop -/
def i_Grid_relations_l1_s {β : Type} (z : β) (out_n : Nat) (out_l : Nat) (out_c : Nat) (r_ : Int) (t10 : Int) (t11 : Int) (t16 : Int) (h0_0 : Int) (h0_1 : Nat → Int) (h0_2 : Nat → Int) (h1 : List (List Int)) (h2 : List (Nat × Nat)) (list_n : Nat) (list_l : Nat) (list_c : Nat) (t17 : Int) (h3 : List Int) (kn : Nat → Nat → Nat → Int → (List Int) → β) (k0 : Nat → Nat → Nat → (List Int) → β) : β :=
  cond (decide (t17 < t16)) (cond (decide (0 ≤ t17) && decide (t17 < (↑8 : Int))) (cond (t17.toNat.blt 8) (cond (decide (0 ≤ t17) && decide (t17 < (↑8 : Int))) (cond (t17.toNat.blt 8) (cond (decide ((bif decide (h0_2 t17.toNat < h0_1 t17.toNat) then h0_2 t17.toNat else h0_1 t17.toNat) ≤ r_)) (cond (decide (0 ≤ t17) && decide (t17 < (↑8 : Int))) (cond (t17.toNat.blt 8) (cond (decide (0 ≤ t17) && decide (t17 < (↑8 : Int))) (cond (t17.toNat.blt 8) (cond (decide (r_ < bif decide (h0_1 t17.toNat < h0_2 t17.toNat) then h0_2 t17.toNat else h0_1 t17.toNat)) (cond (list_n.beq h3.length && true) (cond ((list_l + 1).ble 1099511627776 && ((list_l + 1) * 8).ble 1099511627776) (cond ((list_l + 1).ble list_c) (cond (list_n.beq h3.length && (0 + list_l + 1).ble h3.length) (cond (fits IntKind.i64 (t17 + 1)) (kn list_n (list_l + 1) list_c (t17 + 1) (List.take (0 + list_l) h3 ++ (fromTo ((List.replicate 1 0).set 0 t17) 0 1 ++ List.drop (0 + list_l + 1) h3))) (z)) (z)) (cond (list_l.beq h3.length) (cond (fits IntKind.i64 (t17 + 1)) (kn ((h3 ++ fromTo ((List.replicate 1 0).set 0 t17) 0 1).length) (list_l + 1) (list_l + 1) (t17 + 1) (h3 ++ fromTo ((List.replicate 1 0).set 0 t17) 0 1)) (z)) (z))) (z)) (z)) (cond (fits IntKind.i64 (t17 + 1)) (kn list_n list_l list_c (t17 + 1) h3) (z))) (z)) (z)) (z)) (z)) (cond (fits IntKind.i64 (t17 + 1)) (kn list_n list_l list_c (t17 + 1) h3) (z))) (z)) (z)) (z)) (z)) (k0 list_n list_l list_c h3)
def i_Grid_relations_l1 {β : Type} (z : β) (out_n : Nat) (out_l : Nat) (out_c : Nat) (r_ : Int) (t10 : Int) (t11 : Int) (t16 : Int) (h0_0 : Int) (h0_1 : Nat → Int) (h0_2 : Nat → Int) (h1 : List (List Int)) (h2 : List (Nat × Nat)) : Nat → Nat → Nat → Nat → Int → (List Int) → (Nat → Nat → Nat → (List Int) → β) → β
  | 0, _, _, _, _, _, _ => z
  | m + 1, list_n, list_l, list_c, t17, h3, k0 => i_Grid_relations_l1_s z out_n out_l out_c r_ t10 t11 t16 h0_0 h0_1 h0_2 h1 h2 list_n list_l list_c t17 h3 (fun list_n list_l list_c t17 h3 => i_Grid_relations_l1 z out_n out_l out_c r_ t10 t11 t16 h0_0 h0_1 h0_2 h1 h2 m list_n list_l list_c t17 h3 k0) k0

/-- (impl.Grid).relations, loop -/
def i_Grid_relations_l0_s {β : Type} (z : β) (N : Nat) (t10 : Int) (h0_0 : Int) (h0_1 : Nat → Int) (h0_2 : Nat → Int) (out_n : Nat) (out_l : Nat) (out_c : Nat) (t11 : Int) (h1 : List (List Int)) (h2 : List (Nat × Nat)) (kn : Nat → Nat → Nat → Int → (List (List Int)) → (List (Nat × Nat)) → β) (k0 : Nat → Nat → Nat → (List (List Int)) → (List (Nat × Nat)) → β) : β :=
  cond (decide (t11 < t10)) (i_Grid_n z N h0_0 h0_1 h0_2 (i_Grid_relations_l1 z out_n out_l out_c t11 t10 t11 h0_0 h0_0 h0_1 h0_2 h1 h2 N 0 0 0 0 (List.replicate 0 0) (fun q14 q15 q16 q17 => cond (q14.beq q17.length && (q15.beq q14 && (q16.beq q15 && true))) (cond (out_n.beq h2.length && true) (cond ((out_l + 1).ble 1099511627776 && ((out_l + 1) * 24).ble 1099511627776) (cond ((out_l + 1).ble out_c) (cond (out_n.beq h2.length && (0 + out_l + 1).ble h2.length) (cond (fits IntKind.i64 (t11 + 1)) (kn out_n (out_l + 1) out_c (t11 + 1) (h1 ++ [q17]) (List.take (0 + out_l) h2 ++ ([(h1.length, q15)] ++ List.drop (0 + out_l + 1) h2))) (z)) (z)) (cond (out_l.beq h2.length) (cond (fits IntKind.i64 (t11 + 1)) (kn ((h2 ++ [(h1.length, q15)]).length) (out_l + 1) (out_l + 1) (t11 + 1) (h1 ++ [q17]) (h2 ++ [(h1.length, q15)])) (z)) (z))) (z)) (z)) (z)))) (k0 out_n out_l out_c h1 h2)
def i_Grid_relations_l0 {β : Type} (z : β) (N : Nat) (t10 : Int) (h0_0 : Int) (h0_1 : Nat → Int) (h0_2 : Nat → Int) : Nat → Nat → Nat → Nat → Int → (List (List Int)) → (List (Nat × Nat)) → (Nat → Nat → Nat → (List (List Int)) → (List (Nat × Nat)) → β) → β
  | 0, _, _, _, _, _, _, _ => z
  | m + 1, out_n, out_l, out_c, t11, h1, h2, k0 => i_Grid_relations_l0_s z N t10 h0_0 h0_1 h0_2 out_n out_l out_c t11 h1 h2 (fun out_n out_l out_c t11 h1 h2 => i_Grid_relations_l0 z N t10 h0_0 h0_1 h0_2 m out_n out_l out_c t11 h1 h2 k0) k0

/-- (impl.Grid).relations -/
def i_Grid_relations {β : Type} (z : β) (N : Nat) (g_0 : Int) (g_1 : Nat → Int) (g_2 : Nat → Int) (k0 : Nat → Nat → Nat → (List (Nat × Nat)) → (List (List Int)) → β) : β :=
  i_Grid_n z N g_0 g_1 g_2 (cond (fits IntKind.i64 (g_0 - 1)) (i_Grid_relations_l0 z N (g_0 - 1) g_0 g_1 g_2 N 0 0 0 0 (List.replicate 0 []) (List.map (fun (i : Nat) => (i, 0)) (List.range 0)) (fun q6 q7 q8 q9 q10 => k0 q6 q7 q8 q10 q9)) (z))

/-- impl.RelationsOf$1, loop -/
def i_RelationsOf_1_l1_s {β : Type} (z : β) (out_n : Nat) (out_l : Nat) (out_c : Nat) (t11_n : Nat) (t11_l : Nat) (t11_c : Nat) (t12 : Int) (t13 : Int) (t18_r : Nat) (t18_o : Nat) (t18_n : Nat) (t18_l : Nat) (t18_c : Nat) (t19 : Int) (h0_0 : Int) (h0_1 : Nat → Int) (h0_2 : Nat → Int) (h1 : List (List Int)) (h2 : List (Nat × Nat)) (h3 : List (Nat × Nat)) (h4 : List (List Int)) (columns_n : Nat) (columns_l : Nat) (columns_c : Nat) (t20 : Int) (h5 : List Int) (kn : Nat → Nat → Nat → Int → (List Int) → β) (k0 : Nat → Nat → Nat → (List Int) → β) : β :=
  cond (decide (t20 < t19)) (cond (t18_n.beq (h4[t18_r]?.getD []).length && (decide (0 ≤ t20) && decide (t20 < (↑t18_l : Int)))) (cond (t18_n.beq (h4[t18_r]?.getD []).length && (addO t18_o t20.toNat).blt (h4[t18_r]?.getD []).length) (cond (columns_n.beq h5.length && true) (cond ((columns_l + 1).ble 1099511627776 && ((columns_l + 1) * 8).ble 1099511627776) (cond ((columns_l + 1).ble columns_c) (cond (columns_n.beq h5.length && (0 + columns_l + 1).ble h5.length) (cond (fits IntKind.i64 (t20 + 1)) (kn columns_n (columns_l + 1) columns_c (t20 + 1) (List.take (0 + columns_l) h5 ++ (fromTo ((List.replicate 1 0).set 0 ((h4[t18_r]?.getD [])[addO t18_o t20.toNat]?.getD 0)) 0 1 ++ List.drop (0 + columns_l + 1) h5))) (z)) (z)) (cond (columns_l.beq h5.length) (cond (fits IntKind.i64 (t20 + 1)) (kn ((h5 ++ fromTo ((List.replicate 1 0).set 0 ((h4[t18_r]?.getD [])[addO t18_o t20.toNat]?.getD 0)) 0 1).length) (columns_l + 1) (columns_l + 1) (t20 + 1) (h5 ++ fromTo ((List.replicate 1 0).set 0 ((h4[t18_r]?.getD [])[addO t18_o t20.toNat]?.getD 0)) 0 1)) (z)) (z))) (z)) (z)) (z)) (z)) (k0 columns_n columns_l columns_c h5)
def i_RelationsOf_1_l1 {β : Type} (z : β) (out_n : Nat) (out_l : Nat) (out_c : Nat) (t11_n : Nat) (t11_l : Nat) (t11_c : Nat) (t12 : Int) (t13 : Int) (t18_r : Nat) (t18_o : Nat) (t18_n : Nat) (t18_l : Nat) (t18_c : Nat) (t19 : Int) (h0_0 : Int) (h0_1 : Nat → Int) (h0_2 : Nat → Int) (h1 : List (List Int)) (h2 : List (Nat × Nat)) (h3 : List (Nat × Nat)) (h4 : List (List Int)) : Nat → Nat → Nat → Nat → Int → (List Int) → (Nat → Nat → Nat → (List Int) → β) → β
  | 0, _, _, _, _, _, _ => z
  | m + 1, columns_n, columns_l, columns_c, t20, h5, k0 => i_RelationsOf_1_l1_s z out_n out_l out_c t11_n t11_l t11_c t12 t13 t18_r t18_o t18_n t18_l t18_c t19 h0_0 h0_1 h0_2 h1 h2 h3 h4 columns_n columns_l columns_c t20 h5 (fun columns_n columns_l columns_c t20 h5 => i_RelationsOf_1_l1 z out_n out_l out_c t11_n t11_l t11_c t12 t13 t18_r t18_o t18_n t18_l t18_c t19 h0_0 h0_1 h0_2 h1 h2 h3 h4 m columns_n columns_l columns_c t20 h5 k0) k0

/-- impl.RelationsOf$1, loop -/
def i_RelationsOf_1_l0_s {β : Type} (z : β) (N : Nat) (t11_n : Nat) (t11_l : Nat) (t11_c : Nat) (t12 : Int) (h0_0 : Int) (h0_1 : Nat → Int) (h0_2 : Nat → Int) (h3 : List (Nat × Nat)) (h4 : List (List Int)) (out_n : Nat) (out_l : Nat) (out_c : Nat) (t13 : Int) (h1 : List (List Int)) (h2 : List (Nat × Nat)) (kn : Nat → Nat → Nat → Int → (List (List Int)) → (List (Nat × Nat)) → β) (k0 : Nat → Nat → Nat → (List (List Int)) → (List (Nat × Nat)) → β) : β :=
  cond (decide (t13 < t12)) (cond (t11_n.beq h3.length && (decide (0 ≤ t13) && decide (t13 < (↑t11_l : Int)))) (cond (t11_n.beq h3.length && t13.toNat.blt h3.length) (cond ((h3[t13.toNat]?.getD (0, 0)).snd.ble 9223372036854775807) (i_RelationsOf_1_l1 z out_n out_l out_c t11_n t11_l t11_c t12 t13 ((h3[t13.toNat]?.getD (0, 0)).fst) 0 ((h3[t13.toNat]?.getD (0, 0)).snd) ((h3[t13.toNat]?.getD (0, 0)).snd) ((h3[t13.toNat]?.getD (0, 0)).snd) (↑(h3[t13.toNat]?.getD (0, 0)).snd : Int) h0_0 h0_1 h0_2 h1 h2 h3 h4 N 0 0 0 0 (List.replicate 0 0) (fun q19 q20 q21 q22 => cond (q19.beq q22.length && (q20.beq q19 && (q21.beq q20 && true))) (cond (out_n.beq h2.length && true) (cond ((out_l + 1).ble 1099511627776 && ((out_l + 1) * 24).ble 1099511627776) (cond ((out_l + 1).ble out_c) (cond (out_n.beq h2.length && (0 + out_l + 1).ble h2.length) (cond (fits IntKind.i64 (t13 + 1)) (kn out_n (out_l + 1) out_c (t13 + 1) (h1 ++ [q22]) (List.take (0 + out_l) h2 ++ ([(h1.length, q20)] ++ List.drop (0 + out_l + 1) h2))) (z)) (z)) (cond (out_l.beq h2.length) (cond (fits IntKind.i64 (t13 + 1)) (kn ((h2 ++ [(h1.length, q20)]).length) (out_l + 1) (out_l + 1) (t13 + 1) (h1 ++ [q22]) (h2 ++ [(h1.length, q20)])) (z)) (z))) (z)) (z)) (z))) (z)) (z)) (z)) (k0 out_n out_l out_c h1 h2)
def i_RelationsOf_1_l0 {β : Type} (z : β) (N : Nat) (t11_n : Nat) (t11_l : Nat) (t11_c : Nat) (t12 : Int) (h0_0 : Int) (h0_1 : Nat → Int) (h0_2 : Nat → Int) (h3 : List (Nat × Nat)) (h4 : List (List Int)) : Nat → Nat → Nat → Nat → Int → (List (List Int)) → (List (Nat × Nat)) → (Nat → Nat → Nat → (List (List Int)) → (List (Nat × Nat)) → β) → β
  | 0, _, _, _, _, _, _, _ => z
  | m + 1, out_n, out_l, out_c, t13, h1, h2, k0 => i_RelationsOf_1_l0_s z N t11_n t11_l t11_c t12 h0_0 h0_1 h0_2 h3 h4 out_n out_l out_c t13 h1 h2 (fun out_n out_l out_c t13 h1 h2 => i_RelationsOf_1_l0 z N t11_n t11_l t11_c t12 h0_0 h0_1 h0_2 h3 h4 m out_n out_l out_c t13 h1 h2 k0) k0

/-- impl.RelationsOf$1 -/
def i_RelationsOf_1 {β : Type} (z : β) (N : Nat) (g_0 : Int) (g_1 : Nat → Int) (g_2 : Nat → Int) (k0 : Nat → Nat → Nat → (List (Nat × Nat)) → (List (List Int)) → β) : β :=
  i_Grid_relations z N g_0 g_1 g_2 (fun q6 q7 q8 q9 q10 => cond (q7.ble 9223372036854775807) (i_RelationsOf_1_l0 z N q6 q7 q8 (↑q7 : Int) g_0 g_1 g_2 q9 q10 N 0 0 0 0 (List.replicate 0 []) (List.map (fun (i : Nat) => (i, 0)) (List.range 0)) (fun q11 q12 q13 q14 q15 => k0 q11 q12 q13 q15 q14)) (z))

/-- impl.whole[[][]int64] -/
def i_whole_int64_s2 {β : Type} (z : β) (N : Nat) (g_0 : Int) (g_1 : Nat → Int) (g_2 : Nat → Int) (k0 : Int → β) (k1 : Nat → Nat → Nat → Int → (List (Nat × Nat)) → (List (List Int)) → β) : β :=
  i_IsGrid z N g_0 g_1 g_2 (fun q6 => cond (!q6) (k0 1) (i_RelationsOf_1 z N g_0 g_1 g_2 (fun q7 q8 q9 q10 q11 => k1 q7 q8 q9 0 q10 q11)))

/-- impl.RelationsOf -/
def i_RelationsOf {β : Type} (z : β) (N : Nat) (g_0 : Int) (g_1 : Nat → Int) (g_2 : Nat → Int) (k0 : Int → β) (k1 : Nat → Nat → Nat → Int → (List (Nat × Nat)) → (List (List Int)) → β) : β :=
  i_whole_int64_s2 z N g_0 g_1 g_2 (fun q6 => k0 q6) (fun q6 q7 q8 q9 q10 q11 => k1 q6 q7 q8 q9 q10 q11)

/-- laws.eqInt64SS, loop -/
def w_eqInt64SS_l0_s {β : Type} (z : β) (i : Int)  (kn : β) (k0 : β) : β :=
  cond (decide (i < 0)) (z) (k0)
def w_eqInt64SS_l0 {β : Type} (z : β) (i : Int) : Nat → β → β
  | 0, _ => z
  | m + 1, k0 => w_eqInt64SS_l0_s z i (w_eqInt64SS_l0 z i m k0) k0

/-- laws.eqInt64SS -/
def w_eqInt64SS {β : Type} (z : β) (N : Nat)  (k0 : Bool → β) : β :=
  w_eqInt64SS_l0 z 0 N (k0 true)

/-- laws.markInt64SS, loop -/
def w_markInt64SS_l0_s {β : Type} (z : β) (k : Int) (i : Int)  (kn : β) (k0 : β) : β :=
  cond (decide (i < 0)) (z) (k0)
def w_markInt64SS_l0 {β : Type} (z : β) (k : Int) (i : Int) : Nat → β → β
  | 0, _ => z
  | m + 1, k0 => w_markInt64SS_l0_s z k i (w_markInt64SS_l0 z k i m k0) k0

/-- laws.markInt64SS -/
def w_markInt64SS {β : Type} (z : β) (N : Nat) (k : Int) (k0 : β) : β :=
  w_markInt64SS_l0 z k 0 N k0

/-- laws.heldInt64SS, loop -/
def w_heldInt64SS_l0_s {β : Type} (z : β) (k : Int) (i : Int)  (kn : β) (k0 : β) : β :=
  cond (decide (i < 0)) (z) (k0)
def w_heldInt64SS_l0 {β : Type} (z : β) (k : Int) (i : Int) : Nat → β → β
  | 0, _ => z
  | m + 1, k0 => w_heldInt64SS_l0_s z k i (w_heldInt64SS_l0 z k i m k0) k0

/-- laws.heldInt64SS -/
def w_heldInt64SS {β : Type} (z : β) (N : Nat) (k : Int) (k0 : β) : β :=
  w_heldInt64SS_l0 z k 0 N k0

/-- laws.eqInt64SS, loop -/
def w_eqInt64SS_l0_s2_s {β : Type} (z : β) (a_n : Nat) (a_l : Nat) (a_c : Nat) (i : Int) (h0 : List (Nat × Nat)) (h1 : List (List Int))  (kn : β) (k0 : β) : β :=
  cond (a_l.ble 9223372036854775807) (cond (decide (i < (↑a_l : Int))) (cond (a_n.beq h0.length && (decide (0 ≤ i) && decide (i < (↑a_l : Int)))) (cond (a_n.beq h0.length && i.toNat.blt h0.length) (z) (z)) (z)) (k0)) (z)
def w_eqInt64SS_l0_s2 {β : Type} (z : β) (a_n : Nat) (a_l : Nat) (a_c : Nat) (i : Int) (h0 : List (Nat × Nat)) (h1 : List (List Int)) : Nat → β → β
  | 0, _ => z
  | m + 1, k0 => w_eqInt64SS_l0_s2_s z a_n a_l a_c i h0 h1 (w_eqInt64SS_l0_s2 z a_n a_l a_c i h0 h1 m k0) k0

/-- laws.eqInt64SS -/
def w_eqInt64SS_s2 {β : Type} (z : β) (N : Nat) (a_n : Nat) (a_l : Nat) (a_c : Nat) (h0 : List (Nat × Nat)) (h1 : List (List Int)) (k0 : Bool → β) : β :=
  cond (a_l.ble 9223372036854775807) (cond ((↑a_l : Int) != 0) (k0 false) (w_eqInt64SS_l0_s2 z a_n a_l a_c 0 h0 h1 N (k0 true))) (z)

/-- laws.markInt64S, loop -/
def w_markInt64S_l0_s6_s {β : Type} (z : β) (a_r : Nat) (a_o : Nat) (a_n : Nat) (a_l : Nat) (a_c : Nat) (k : Int) (i : Int) (h0 : List (List Int)) (kn : Int → Int → (List (List Int)) → β) (k0 : Int → (List (List Int)) → β) : β :=
  cond (a_l.ble 9223372036854775807) (cond (decide (i < (↑a_l : Int))) (cond (a_n.beq (h0[a_r]?.getD []).length && (decide (0 ≤ i) && decide (i < (↑a_l : Int)))) (cond (a_n.beq (h0[a_r]?.getD []).length && (addO a_o i.toNat).blt (h0[a_r]?.getD []).length) (cond (fits IntKind.i64 (k + 1)) (cond (fits IntKind.i64 (i + 1)) (kn (k + 1) (i + 1) (h0.set a_r ((h0[a_r]?.getD []).set (addO a_o i.toNat) k))) (z)) (z)) (z)) (z)) (k0 k h0)) (z)
def w_markInt64S_l0_s6 {β : Type} (z : β) (a_r : Nat) (a_o : Nat) (a_n : Nat) (a_l : Nat) (a_c : Nat) : Nat → Int → Int → (List (List Int)) → (Int → (List (List Int)) → β) → β
  | 0, _, _, _, _ => z
  | m + 1, k, i, h0, k0 => w_markInt64S_l0_s6_s z a_r a_o a_n a_l a_c k i h0 (fun k i h0 => w_markInt64S_l0_s6 z a_r a_o a_n a_l a_c m k i h0 k0) k0

/-- laws.markInt64S -/
def w_markInt64S_s6 {β : Type} (z : β) (N : Nat) (a_r : Nat) (a_o : Nat) (a_n : Nat) (a_l : Nat) (a_c : Nat) (k : Int) (h0 : List (List Int)) (k0 : Int → (List (List Int)) → β) : β :=
  w_markInt64S_l0_s6 z a_r a_o a_n a_l a_c N k 0 h0 (fun q10 q11 => k0 q10 q11)

/-- laws.markInt64SS, loop -/
def w_markInt64SS_l0_s2_s {β : Type} (z : β) (N : Nat) (a_n : Nat) (a_l : Nat) (a_c : Nat) (h0 : List (Nat × Nat)) (k : Int) (i : Int) (h1 : List (List Int)) (kn : Int → Int → (List (List Int)) → β) (k0 : Int → (List (List Int)) → β) : β :=
  cond (a_l.ble 9223372036854775807) (cond (decide (i < (↑a_l : Int))) (cond (a_n.beq h0.length && (decide (0 ≤ i) && decide (i < (↑a_l : Int)))) (cond (a_n.beq h0.length && i.toNat.blt h0.length) (w_markInt64S_s6 z N ((h0[i.toNat]?.getD (0, 0)).fst) 0 ((h0[i.toNat]?.getD (0, 0)).snd) ((h0[i.toNat]?.getD (0, 0)).snd) ((h0[i.toNat]?.getD (0, 0)).snd) k h1 (fun q11 q12 => cond (fits IntKind.i64 (i + 1)) (kn q11 (i + 1) q12) (z))) (z)) (z)) (k0 k h1)) (z)
def w_markInt64SS_l0_s2 {β : Type} (z : β) (N : Nat) (a_n : Nat) (a_l : Nat) (a_c : Nat) (h0 : List (Nat × Nat)) : Nat → Int → Int → (List (List Int)) → (Int → (List (List Int)) → β) → β
  | 0, _, _, _, _ => z
  | m + 1, k, i, h1, k0 => w_markInt64SS_l0_s2_s z N a_n a_l a_c h0 k i h1 (fun k i h1 => w_markInt64SS_l0_s2 z N a_n a_l a_c h0 m k i h1 k0) k0

/-- laws.markInt64SS -/
def w_markInt64SS_s2 {β : Type} (z : β) (N : Nat) (a_n : Nat) (a_l : Nat) (a_c : Nat) (k : Int) (h0 : List (Nat × Nat)) (h1 : List (List Int)) (k0 : Int → (List (List Int)) → β) : β :=
  w_markInt64SS_l0_s2 z N a_n a_l a_c h0 N k 0 h1 (fun q9 q10 => k0 q9 q10)

/-- laws.heldInt64S, loop -/
def w_heldInt64S_l0_s6_s {β : Type} (z : β) (a_r : Nat) (a_o : Nat) (a_n : Nat) (a_l : Nat) (a_c : Nat) (h0 : List (List Int)) (k : Int) (i : Int) (kn : Int → Int → β) (k0 : β) (k1 : Int → β) : β :=
  cond (a_l.ble 9223372036854775807) (cond (decide (i < (↑a_l : Int))) (cond (a_n.beq (h0[a_r]?.getD []).length && (decide (0 ≤ i) && decide (i < (↑a_l : Int)))) (cond (a_n.beq (h0[a_r]?.getD []).length && (addO a_o i.toNat).blt (h0[a_r]?.getD []).length) (cond ((h0[a_r]?.getD [])[addO a_o i.toNat]?.getD 0 != k) (k0) (cond (fits IntKind.i64 (k + 1)) (cond (fits IntKind.i64 (i + 1)) (kn (k + 1) (i + 1)) (z)) (z))) (z)) (z)) (k1 k)) (z)
def w_heldInt64S_l0_s6 {β : Type} (z : β) (a_r : Nat) (a_o : Nat) (a_n : Nat) (a_l : Nat) (a_c : Nat) (h0 : List (List Int)) : Nat → Int → Int → β → (Int → β) → β
  | 0, _, _, _, _ => z
  | m + 1, k, i, k0, k1 => w_heldInt64S_l0_s6_s z a_r a_o a_n a_l a_c h0 k i (fun k i => w_heldInt64S_l0_s6 z a_r a_o a_n a_l a_c h0 m k i k0 k1) k0 k1

/-- laws.heldInt64S -/
def w_heldInt64S_s6 {β : Type} (z : β) (N : Nat) (a_r : Nat) (a_o : Nat) (a_n : Nat) (a_l : Nat) (a_c : Nat) (k : Int) (h0 : List (List Int)) (k0 : Int → β) : β :=
  w_heldInt64S_l0_s6 z a_r a_o a_n a_l a_c h0 N k 0 (k0 (-1)) (fun q10 => k0 q10)

/-- laws.heldInt64SS, loop -/
def w_heldInt64SS_l0_s2_s {β : Type} (z : β) (N : Nat) (a_n : Nat) (a_l : Nat) (a_c : Nat) (h0 : List (Nat × Nat)) (h1 : List (List Int)) (k : Int) (i : Int) (kn : Int → Int → β) (k0 : β) (k1 : Int → β) : β :=
  cond (a_l.ble 9223372036854775807) (cond (decide (i < (↑a_l : Int))) (cond (a_n.beq h0.length && (decide (0 ≤ i) && decide (i < (↑a_l : Int)))) (cond (a_n.beq h0.length && i.toNat.blt h0.length) (w_heldInt64S_s6 z N ((h0[i.toNat]?.getD (0, 0)).fst) 0 ((h0[i.toNat]?.getD (0, 0)).snd) ((h0[i.toNat]?.getD (0, 0)).snd) ((h0[i.toNat]?.getD (0, 0)).snd) k h1 (fun q11 => cond (decide (q11 < 0)) (k0) (cond (fits IntKind.i64 (i + 1)) (kn q11 (i + 1)) (z)))) (z)) (z)) (k1 k)) (z)
def w_heldInt64SS_l0_s2 {β : Type} (z : β) (N : Nat) (a_n : Nat) (a_l : Nat) (a_c : Nat) (h0 : List (Nat × Nat)) (h1 : List (List Int)) : Nat → Int → Int → β → (Int → β) → β
  | 0, _, _, _, _ => z
  | m + 1, k, i, k0, k1 => w_heldInt64SS_l0_s2_s z N a_n a_l a_c h0 h1 k i (fun k i => w_heldInt64SS_l0_s2 z N a_n a_l a_c h0 h1 m k i k0 k1) k0 k1

/-- laws.heldInt64SS -/
def w_heldInt64SS_s2 {β : Type} (z : β) (N : Nat) (a_n : Nat) (a_l : Nat) (a_c : Nat) (k : Int) (h0 : List (Nat × Nat)) (h1 : List (List Int)) (k0 : Int → β) : β :=
  w_heldInt64SS_l0_s2 z N a_n a_l a_c h0 h1 N k 0 (k0 (-1)) (fun q9 => k0 q9)

/-- laws.eqInt64SS, loop -/
def w_eqInt64SS_l0_s3_s {β : Type} (z : β) (b_n : Nat) (b_l : Nat) (b_c : Nat) (i : Int) (h0 : List (Nat × Nat)) (h1 : List (List Int))  (kn : β) (k0 : β) : β :=
  cond (decide (i < 0)) (z) (k0)
def w_eqInt64SS_l0_s3 {β : Type} (z : β) (b_n : Nat) (b_l : Nat) (b_c : Nat) (i : Int) (h0 : List (Nat × Nat)) (h1 : List (List Int)) : Nat → β → β
  | 0, _ => z
  | m + 1, k0 => w_eqInt64SS_l0_s3_s z b_n b_l b_c i h0 h1 (w_eqInt64SS_l0_s3 z b_n b_l b_c i h0 h1 m k0) k0

/-- laws.eqInt64SS -/
def w_eqInt64SS_s3 {β : Type} (z : β) (N : Nat) (b_n : Nat) (b_l : Nat) (b_c : Nat) (h0 : List (Nat × Nat)) (h1 : List (List Int)) (k0 : Bool → β) : β :=
  cond (b_l.ble 9223372036854775807) (cond (0 != (↑b_l : Int)) (k0 false) (w_eqInt64SS_l0_s3 z b_n b_l b_c 0 h0 h1 N (k0 true))) (z)

/-- laws.eqInt64S, loop -/
def w_eqInt64S_l0_s12_s {β : Type} (z : β) (a_r : Nat) (a_o : Nat) (a_n : Nat) (a_l : Nat) (a_c : Nat) (b_r : Nat) (b_o : Nat) (b_n : Nat) (b_l : Nat) (b_c : Nat) (h0 : List (List Int)) (h1 : List (List Int)) (i : Int) (kn : Int → β) (k0 : β) (k1 : β) : β :=
  cond (a_l.ble 9223372036854775807) (cond (decide (i < (↑a_l : Int))) (cond (a_n.beq (h0[a_r]?.getD []).length && (decide (0 ≤ i) && decide (i < (↑a_l : Int)))) (cond (a_n.beq (h0[a_r]?.getD []).length && (addO a_o i.toNat).blt (h0[a_r]?.getD []).length) (cond (b_n.beq (h1[b_r]?.getD []).length && (decide (0 ≤ i) && decide (i < (↑b_l : Int)))) (cond (b_n.beq (h1[b_r]?.getD []).length && (addO b_o i.toNat).blt (h1[b_r]?.getD []).length) (cond ((h0[a_r]?.getD [])[addO a_o i.toNat]?.getD 0 != (h1[b_r]?.getD [])[addO b_o i.toNat]?.getD 0) (k0) (cond (fits IntKind.i64 (i + 1)) (kn (i + 1)) (z))) (z)) (z)) (z)) (z)) (k1)) (z)
def w_eqInt64S_l0_s12 {β : Type} (z : β) (a_r : Nat) (a_o : Nat) (a_n : Nat) (a_l : Nat) (a_c : Nat) (b_r : Nat) (b_o : Nat) (b_n : Nat) (b_l : Nat) (b_c : Nat) (h0 : List (List Int)) (h1 : List (List Int)) : Nat → Int → β → β → β
  | 0, _, _, _ => z
  | m + 1, i, k0, k1 => w_eqInt64S_l0_s12_s z a_r a_o a_n a_l a_c b_r b_o b_n b_l b_c h0 h1 i (fun i => w_eqInt64S_l0_s12 z a_r a_o a_n a_l a_c b_r b_o b_n b_l b_c h0 h1 m i k0 k1) k0 k1

/-- laws.eqInt64S -/
def w_eqInt64S_s14 {β : Type} (z : β) (N : Nat) (a_r : Nat) (a_o : Nat) (a_n : Nat) (a_l : Nat) (a_c : Nat) (b_r : Nat) (b_o : Nat) (b_n : Nat) (b_l : Nat) (b_c : Nat) (h0 : List (List Int)) (h1 : List (List Int)) (k0 : Bool → β) : β :=
  cond (a_l.ble 9223372036854775807) (cond (b_l.ble 9223372036854775807) (cond ((↑a_l : Int) != (↑b_l : Int)) (k0 false) (w_eqInt64S_l0_s12 z a_r a_o a_n a_l a_c b_r b_o b_n b_l b_c h0 h1 N 0 (k0 false) (k0 true))) (z)) (z)

/-- laws.eqInt64SS, loop -/
def w_eqInt64SS_l0_s4_s {β : Type} (z : β) (N : Nat) (a_n : Nat) (a_l : Nat) (a_c : Nat) (b_n : Nat) (b_l : Nat) (b_c : Nat) (h0 : List (Nat × Nat)) (h1 : List (Nat × Nat)) (h2 : List (List Int)) (h3 : List (List Int)) (i : Int) (kn : Int → β) (k0 : β) (k1 : β) : β :=
  cond (a_l.ble 9223372036854775807) (cond (decide (i < (↑a_l : Int))) (cond (a_n.beq h0.length && (decide (0 ≤ i) && decide (i < (↑a_l : Int)))) (cond (a_n.beq h0.length && i.toNat.blt h0.length) (cond (b_n.beq h1.length && (decide (0 ≤ i) && decide (i < (↑b_l : Int)))) (cond (b_n.beq h1.length && i.toNat.blt h1.length) (w_eqInt64S_s14 z N ((h0[i.toNat]?.getD (0, 0)).fst) 0 ((h0[i.toNat]?.getD (0, 0)).snd) ((h0[i.toNat]?.getD (0, 0)).snd) ((h0[i.toNat]?.getD (0, 0)).snd) ((h1[i.toNat]?.getD (0, 0)).fst) 0 ((h1[i.toNat]?.getD (0, 0)).snd) ((h1[i.toNat]?.getD (0, 0)).snd) ((h1[i.toNat]?.getD (0, 0)).snd) h2 h3 (fun q15 => cond (!q15) (k0) (cond (fits IntKind.i64 (i + 1)) (kn (i + 1)) (z)))) (z)) (z)) (z)) (z)) (k1)) (z)
def w_eqInt64SS_l0_s4 {β : Type} (z : β) (N : Nat) (a_n : Nat) (a_l : Nat) (a_c : Nat) (b_n : Nat) (b_l : Nat) (b_c : Nat) (h0 : List (Nat × Nat)) (h1 : List (Nat × Nat)) (h2 : List (List Int)) (h3 : List (List Int)) : Nat → Int → β → β → β
  | 0, _, _, _ => z
  | m + 1, i, k0, k1 => w_eqInt64SS_l0_s4_s z N a_n a_l a_c b_n b_l b_c h0 h1 h2 h3 i (fun i => w_eqInt64SS_l0_s4 z N a_n a_l a_c b_n b_l b_c h0 h1 h2 h3 m i k0 k1) k0 k1

/-- laws.eqInt64SS -/
def w_eqInt64SS_s4 {β : Type} (z : β) (N : Nat) (a_n : Nat) (a_l : Nat) (a_c : Nat) (b_n : Nat) (b_l : Nat) (b_c : Nat) (h0 : List (Nat × Nat)) (h1 : List (Nat × Nat)) (h2 : List (List Int)) (h3 : List (List Int)) (k0 : Bool → β) : β :=
  cond (a_l.ble 9223372036854775807) (cond (b_l.ble 9223372036854775807) (cond ((↑a_l : Int) != (↑b_l : Int)) (k0 false) (w_eqInt64SS_l0_s4 z N a_n a_l a_c b_n b_l b_c h0 h1 h2 h3 N 0 (k0 false) (k0 true))) (z)) (z)

/-- laws.FnExactRelationsOf -/
def w_FnExactRelationsOf {β : Type} (z : β) (N : Nat) (aG_0 : Int) (aG_1 : Nat → Int) (aG_2 : Nat → Int) (k0 : Bool → β) : β :=
  w_toGrid z N aG_0 aG_1 aG_2 (fun q6 q7 => s_RelationsOf z N aG_0 q6 q7 (fun q8 => w_toGrid z N aG_0 aG_1 aG_2 (fun q9 q10 => i_RelationsOf z N aG_0 q9 q10 (fun q11 => w_eqInt64SS z N (fun q12 => cond (!q12) (k0 false) (cond (q11 != q8) (k0 false) (w_markInt64SS z N 1 (w_heldInt64SS z N 1 (w_toGrid z N aG_0 aG_1 aG_2 (fun q13 q14 => i_RelationsOf z N aG_0 q13 q14 (fun q15 => w_eqInt64SS z N (fun q16 => cond (!q16) (k0 false) (cond (q15 != q8) (k0 false) (w_heldInt64SS z N 1 (k0 true))))) (fun q15 q16 q17 q18 q19 q20 => w_eqInt64SS_s2 z N q15 q16 q17 q19 q20 (fun q21 => cond (!q21) (k0 false) (cond (q18 != q8) (k0 false) (w_heldInt64SS z N 1 (k0 true)))))))))))) (fun q11 q12 q13 q14 q15 q16 => w_eqInt64SS_s2 z N q11 q12 q13 q15 q16 (fun q17 => cond (!q17) (k0 false) (cond (q14 != q8) (k0 false) (w_markInt64SS_s2 z N q11 q12 q13 1 q15 q16 (fun q18 q19 => w_heldInt64SS_s2 z N q11 q12 q13 1 q15 q19 (fun q20 => cond (decide (q20 < 0)) (k0 false) (cond (q20 != q18) (k0 false) (w_toGrid z N aG_0 aG_1 aG_2 (fun q21 q22 => i_RelationsOf z N aG_0 q21 q22 (fun q23 => w_eqInt64SS z N (fun q24 => cond (!q24) (k0 false) (cond (q23 != q8) (k0 false) (w_heldInt64SS_s2 z N q11 q12 q13 1 q15 q19 (fun q25 => cond (decide (q25 < 0)) (k0 false) (cond (q25 != q18) (k0 false) (k0 true))))))) (fun q23 q24 q25 q26 q27 q28 => w_eqInt64SS_s2 z N q23 q24 q25 q27 q28 (fun q29 => cond (!q29) (k0 false) (cond (q26 != q8) (k0 false) (w_heldInt64SS_s2 z N q11 q12 q13 1 q15 q19 (fun q30 => cond (decide (q30 < 0)) (k0 false) (cond (q30 != q18) (k0 false) (k0 true)))))))))))))))))) (fun q8 q9 q10 q11 q12 q13 => w_toGrid z N aG_0 aG_1 aG_2 (fun q14 q15 => i_RelationsOf z N aG_0 q14 q15 (fun q16 => w_eqInt64SS_s3 z N q8 q9 q10 q12 q13 (fun q17 => cond (!q17) (k0 false) (cond (q16 != q11) (k0 false) (w_markInt64SS z N 1 (w_heldInt64SS z N 1 (w_toGrid z N aG_0 aG_1 aG_2 (fun q18 q19 => i_RelationsOf z N aG_0 q18 q19 (fun q20 => w_eqInt64SS_s3 z N q8 q9 q10 q12 q13 (fun q21 => cond (!q21) (k0 false) (cond (q20 != q11) (k0 false) (w_heldInt64SS z N 1 (k0 true))))) (fun q20 q21 q22 q23 q24 q25 => w_eqInt64SS_s4 z N q20 q21 q22 q8 q9 q10 q24 q12 q25 q13 (fun q26 => cond (!q26) (k0 false) (cond (q23 != q11) (k0 false) (w_heldInt64SS z N 1 (k0 true)))))))))))) (fun q16 q17 q18 q19 q20 q21 => w_eqInt64SS_s4 z N q16 q17 q18 q8 q9 q10 q20 q12 q21 q13 (fun q22 => cond (!q22) (k0 false) (cond (q19 != q11) (k0 false) (w_markInt64SS_s2 z N q16 q17 q18 1 q20 q21 (fun q23 q24 => w_heldInt64SS_s2 z N q16 q17 q18 1 q20 q24 (fun q25 => cond (decide (q25 < 0)) (k0 false) (cond (q25 != q23) (k0 false) (w_toGrid z N aG_0 aG_1 aG_2 (fun q26 q27 => i_RelationsOf z N aG_0 q26 q27 (fun q28 => w_eqInt64SS_s3 z N q8 q9 q10 q12 q13 (fun q29 => cond (!q29) (k0 false) (cond (q28 != q11) (k0 false) (w_heldInt64SS_s2 z N q16 q17 q18 1 q20 q24 (fun q30 => cond (decide (q30 < 0)) (k0 false) (cond (q30 != q23) (k0 false) (k0 true))))))) (fun q28 q29 q30 q31 q32 q33 => w_eqInt64SS_s4 z N q28 q29 q30 q8 q9 q10 q32 q12 q33 q13 (fun q34 => cond (!q34) (k0 false) (cond (q31 != q11) (k0 false) (w_heldInt64SS_s2 z N q16 q17 q18 1 q20 q24 (fun q35 => cond (decide (q35 < 0)) (k0 false) (cond (q35 != q23) (k0 false) (k0 true)))))))))))))))))))
end Go.AM
