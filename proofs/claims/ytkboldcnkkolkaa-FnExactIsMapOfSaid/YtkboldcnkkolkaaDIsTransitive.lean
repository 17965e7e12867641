/- A part of a proof about the given program: an abstract machine, what the given functions come to, and plain laws. -/
import Derived.Test.YtkboldcnkkolkaaDIsPlaces
import Derived.Test.YtkboldcnkkolkaaDIsMosaic
set_option maxRecDepth 100000
namespace Go.AM
/-- laws.szPlacesS -/
def w_szPlacesS {β : Type} (z : β) (N : Nat) (a_n : Nat) (a_l : Nat) (a_c : Nat) (left : Int) (h0_n : Nat) (h0 : Nat → Int) (k0 : Int → β) : β :=
  cond (a_l.ble 9223372036854775807) (cond (fits IntKind.i64 (left - (↑a_l : Int))) (cond (decide (left - (↑a_l : Int) < 0)) (k0 (-1)) (k0 (left - (↑a_l : Int)))) (z)) (z)

/-- laws.toPlacesS, loop -/
def w_toPlacesS_l0_s {β : Type} (z : β) (N : Nat) (a_n : Nat) (a_l : Nat) (a_c : Nat) (out_n : Nat) (out_l : Nat) (out_c : Nat) (h0_n : Nat) (h0 : Nat → Int) (h1_n : Nat) (i : Int) (h1 : Nat → Int) (kn : Int → (Nat → Int) → β) (k0 : (Nat → Int) → β) : β :=
  cond (a_l.ble 9223372036854775807) (cond (decide (i < (↑a_l : Int))) (cond (a_n.beq h0_n && (decide (0 ≤ i) && decide (i < (↑a_l : Int)))) (cond (a_n.beq h0_n && (i.toNat * 4 + 4).ble h0_n) (w_toPlaces z N (shiftF h0 (i.toNat * 4)) (fun q15 => cond (out_n.beq h1_n && (decide (0 ≤ i) && decide (i < (↑out_l : Int)))) (cond (out_n.beq h1_n && (i.toNat * 4 + 4).ble h1_n) (cond (fits IntKind.i64 (i + 1)) (kn (i + 1) (chooseF (Nat.beq 4 h1_n) q15 (spliceF h1 (i.toNat * 4) 4 q15))) (z)) (z)) (z))) (z)) (z)) (k0 h1)) (z)
def w_toPlacesS_l0 {β : Type} (z : β) (N : Nat) (a_n : Nat) (a_l : Nat) (a_c : Nat) (out_n : Nat) (out_l : Nat) (out_c : Nat) (h0_n : Nat) (h0 : Nat → Int) (h1_n : Nat) : Nat → Int → (Nat → Int) → ((Nat → Int) → β) → β
  | 0, _, _, _ => z
  | m + 1, i, h1, k0 => w_toPlacesS_l0_s z N a_n a_l a_c out_n out_l out_c h0_n h0 h1_n i h1 (fun i h1 => w_toPlacesS_l0 z N a_n a_l a_c out_n out_l out_c h0_n h0 h1_n m i h1 k0) k0

/-- laws.toPlacesS -/
def w_toPlacesS {β : Type} (z : β) (N : Nat) (a_n : Nat) (a_l : Nat) (a_c : Nat) (h0_n : Nat) (h0 : Nat → Int) (k0 : Nat → Nat → Nat → Nat → (Nat → Int) → β) : β :=
  cond (a_l.ble 9223372036854775807) (cond (decide ((↑a_l : Int) ≤ (↑a_l : Int)) && decide ((↑a_l : Int) ≤ 1073741824) && true && true) (w_toPlacesS_l0 z N a_n a_l a_c ((↑a_l : Int).toNat * 4) ((↑a_l : Int).toNat) ((↑a_l : Int).toNat) h0_n h0 ((↑a_l : Int).toNat * 4) N 0 (fun (x : Nat) => 0) (fun q8 => k0 ((↑a_l : Int).toNat * 4) ((↑a_l : Int).toNat) ((↑a_l : Int).toNat) ((↑a_l : Int).toNat * 4) q8)) (z)) (z)

/-- spec.l08List, loop -/
def s_l08List_l0_s {β : Type} (z : β) (N : Nat) (k : Int) (list_n : Nat) (list_l : Nat) (list_c : Nat) (h0_n : Nat) (h0 : Nat → Int) (i : Int) (kn : Int → β) (k0 : β) (k1 : β) : β :=
  cond (list_l.ble 9223372036854775807) (cond (decide (i < (↑list_l : Int))) (cond (list_n.beq h0_n && (decide (0 ≤ i) && decide (i < (↑list_l : Int)))) (cond (list_n.beq h0_n && (i.toNat * 4 + 4).ble h0_n) (s_l08Is z N (shiftF h0 (i.toNat * 4)) k (fun q11 => cond (!q11) (k0) (cond (fits IntKind.i64 (i + 1)) (kn (i + 1)) (z)))) (z)) (z)) (k1)) (z)
def s_l08List_l0 {β : Type} (z : β) (N : Nat) (k : Int) (list_n : Nat) (list_l : Nat) (list_c : Nat) (h0_n : Nat) (h0 : Nat → Int) : Nat → Int → β → β → β
  | 0, _, _, _ => z
  | m + 1, i, k0, k1 => s_l08List_l0_s z N k list_n list_l list_c h0_n h0 i (fun i => s_l08List_l0 z N k list_n list_l list_c h0_n h0 m i k0 k1) k0 k1

/-- spec.l08List -/
def s_l08List {β : Type} (z : β) (N : Nat) (k : Int) (list_n : Nat) (list_l : Nat) (list_c : Nat) (h0_n : Nat) (h0 : Nat → Int) (k0 : Int → β) : β :=
  s_l01In z N k 1 4 (fun q9 => cond (!q9) (k0 2) (s_l08List_l0 z N k list_n list_l list_c h0_n h0 N 0 (k0 2) (k0 0)))

/-- spec.l08Reaches, loop -/
def s_l08Reaches_l1_s {β : Type} (z : β) (k : Int) (list_n : Nat) (list_l : Nat) (list_c : Nat) (i : Int) (h0_n : Nat) (h0 : Nat → Int) (queue_n : Nat) (queue_l : Nat) (queue_c : Nat) (j : Int) (h1 : List Int) (h2 : Nat → Bool) (kn : Nat → Nat → Nat → Int → (List Int) → (Nat → Bool) → β) (k0 : Nat → Nat → Nat → (List Int) → (Nat → Bool) → β) : β :=
  cond (list_l.ble 9223372036854775807) (cond (decide (j < (↑list_l : Int))) (cond (queue_n.beq h1.length && (decide (0 ≤ i) && decide (i < (↑queue_l : Int)))) (cond (queue_n.beq h1.length && i.toNat.blt h1.length) (cond (list_n.beq h0_n && (decide (0 ≤ j) && decide (j < (↑list_l : Int)))) (cond (decide (0 ≤ h1[i.toNat]?.getD 0) && decide (h1[i.toNat]?.getD 0 < (↑4 : Int))) (cond (list_n.beq h0_n && (addO (j.toNat * 4) (h1[i.toNat]?.getD 0).toNat).blt h0_n) (cond (decide (0 ≤ h0 (addO (j.toNat * 4) (h1[i.toNat]?.getD 0).toNat)) && decide (h0 (addO (j.toNat * 4) (h1[i.toNat]?.getD 0).toNat) < (↑4 : Int))) (cond ((h0 (addO (j.toNat * 4) (h1[i.toNat]?.getD 0).toNat)).toNat.blt 4) (cond (!h2 (h0 (addO (j.toNat * 4) (h1[i.toNat]?.getD 0).toNat)).toNat) (cond (decide (0 ≤ h0 (addO (j.toNat * 4) (h1[i.toNat]?.getD 0).toNat)) && decide (h0 (addO (j.toNat * 4) (h1[i.toNat]?.getD 0).toNat) < (↑4 : Int))) (cond ((h0 (addO (j.toNat * 4) (h1[i.toNat]?.getD 0).toNat)).toNat.blt 4) (cond (queue_n.beq h1.length && true) (cond ((queue_l + 1).ble 1099511627776 && ((queue_l + 1) * 8).ble 1099511627776) (cond ((queue_l + 1).ble queue_c) (cond (queue_n.beq h1.length && (0 + queue_l + 1).ble h1.length) (cond (fits IntKind.i64 (j + 1)) (kn queue_n (queue_l + 1) queue_c (j + 1) (List.take (0 + queue_l) h1 ++ (fromTo ((List.replicate 1 0).set 0 (h0 (addO (j.toNat * 4) (h1[i.toNat]?.getD 0).toNat))) 0 1 ++ List.drop (0 + queue_l + 1) h1)) (upd h2 (h0 (addO (j.toNat * 4) (h1[i.toNat]?.getD 0).toNat)).toNat true)) (z)) (z)) (cond (queue_l.beq h1.length) (cond (fits IntKind.i64 (j + 1)) (kn ((h1 ++ fromTo ((List.replicate 1 0).set 0 (h0 (addO (j.toNat * 4) (h1[i.toNat]?.getD 0).toNat))) 0 1).length) (queue_l + 1) (queue_l + 1) (j + 1) (h1 ++ fromTo ((List.replicate 1 0).set 0 (h0 (addO (j.toNat * 4) (h1[i.toNat]?.getD 0).toNat))) 0 1) (upd h2 (h0 (addO (j.toNat * 4) (h1[i.toNat]?.getD 0).toNat)).toNat true)) (z)) (z))) (z)) (z)) (z)) (z)) (cond (fits IntKind.i64 (j + 1)) (kn queue_n queue_l queue_c (j + 1) h1 h2) (z))) (z)) (z)) (z)) (z)) (z)) (z)) (z)) (k0 queue_n queue_l queue_c h1 h2)) (z)
def s_l08Reaches_l1 {β : Type} (z : β) (k : Int) (list_n : Nat) (list_l : Nat) (list_c : Nat) (i : Int) (h0_n : Nat) (h0 : Nat → Int) : Nat → Nat → Nat → Nat → Int → (List Int) → (Nat → Bool) → (Nat → Nat → Nat → (List Int) → (Nat → Bool) → β) → β
  | 0, _, _, _, _, _, _, _ => z
  | m + 1, queue_n, queue_l, queue_c, j, h1, h2, k0 => s_l08Reaches_l1_s z k list_n list_l list_c i h0_n h0 queue_n queue_l queue_c j h1 h2 (fun queue_n queue_l queue_c j h1 h2 => s_l08Reaches_l1 z k list_n list_l list_c i h0_n h0 m queue_n queue_l queue_c j h1 h2 k0) k0

/-- spec.l08Reaches, loop -/
def s_l08Reaches_l0_s {β : Type} (z : β) (N : Nat) (k : Int) (list_n : Nat) (list_l : Nat) (list_c : Nat) (h0_n : Nat) (h0 : Nat → Int) (queue_n : Nat) (queue_l : Nat) (queue_c : Nat) (i : Int) (h1 : List Int) (h2 : Nat → Bool) (kn : Nat → Nat → Nat → Int → (List Int) → (Nat → Bool) → β) (k0 : Nat → Nat → Nat → (List Int) → (Nat → Bool) → β) : β :=
  cond (queue_l.ble 9223372036854775807) (cond (decide (i < (↑queue_l : Int))) (s_l08Reaches_l1 z k list_n list_l list_c i h0_n h0 N queue_n queue_l queue_c 0 h1 h2 (fun q16 q17 q18 q19 q20 => cond (fits IntKind.i64 (i + 1)) (kn q16 q17 q18 (i + 1) q19 q20) (z))) (k0 queue_n queue_l queue_c h1 h2)) (z)
def s_l08Reaches_l0 {β : Type} (z : β) (N : Nat) (k : Int) (list_n : Nat) (list_l : Nat) (list_c : Nat) (h0_n : Nat) (h0 : Nat → Int) : Nat → Nat → Nat → Nat → Int → (List Int) → (Nat → Bool) → (Nat → Nat → Nat → (List Int) → (Nat → Bool) → β) → β
  | 0, _, _, _, _, _, _, _ => z
  | m + 1, queue_n, queue_l, queue_c, i, h1, h2, k0 => s_l08Reaches_l0_s z N k list_n list_l list_c h0_n h0 queue_n queue_l queue_c i h1 h2 (fun queue_n queue_l queue_c i h1 h2 => s_l08Reaches_l0 z N k list_n list_l list_c h0_n h0 m queue_n queue_l queue_c i h1 h2 k0) k0

/-- spec.l08Reaches -/
def s_l08Reaches {β : Type} (z : β) (N : Nat) (k : Int) (list_n : Nat) (list_l : Nat) (list_c : Nat) (h0_n : Nat) (h0 : Nat → Int) (k0 : Bool → β) : β :=
  s_l08Reaches_l0 z N k list_n list_l list_c h0_n h0 N 1 1 1 0 ((List.replicate 1 0).set 0 0) (upd (fun (x : Nat) => false) 0 true) (fun q9 q10 q11 q12 q13 => cond (q10.ble 9223372036854775807) (k0 ((↑q10 : Int) == k)) (z))

/-- spec.IsTransitive -/
def s_IsTransitive {β : Type} (z : β) (N : Nat) (k : Int) (list_n : Nat) (list_l : Nat) (list_c : Nat) (h0_n : Nat) (h0 : Nat → Int) (k0 : Bool → Int → β) : β :=
  s_l08List z N k list_n list_l list_c h0_n h0 (fun q9 => cond (q9 != 0) (k0 false q9) (s_l08Reaches z N k list_n list_l list_c h0_n h0 (fun q10 => k0 q10 0)))

/-- impl.arePlaces$1 -/
def i_arePlaces_1 {β : Type} (z : β) (N : Nat) (q : Nat → Int) (h0 : Int) (k0 : Bool → β) : β :=
  i_IsPlaces z N q h0 (fun q5 => k0 (!q5))

/-- slices.IndexFunc[[]impl.Places,impl.Places], loop -/
def slices_IndexFunc_i_Places_i_Places_l0_s {β : Type} (z : β) (N : Nat) (s_n : Nat) (s_l : Nat) (s_c : Nat) (t7 : Int) (h0_n : Nat) (h0 : Nat → Int) (h1 : Int) (t8 : Int) (kn : Int → β) (k0 : Int → β) (k1 : β) : β :=
  cond (decide (t8 < t7)) (cond (s_n.beq h0_n && (decide (0 ≤ t8) && decide (t8 < (↑s_l : Int)))) (cond (s_n.beq h0_n && (t8.toNat * 4 + 4).ble h0_n) (i_arePlaces_1 z N (shiftF h0 (t8.toNat * 4)) h1 (fun q12 => cond (q12) (k0 t8) (cond (fits IntKind.i64 (t8 + 1)) (kn (t8 + 1)) (z)))) (z)) (z)) (k1)
def slices_IndexFunc_i_Places_i_Places_l0 {β : Type} (z : β) (N : Nat) (s_n : Nat) (s_l : Nat) (s_c : Nat) (t7 : Int) (h0_n : Nat) (h0 : Nat → Int) (h1 : Int) : Nat → Int → (Int → β) → β → β
  | 0, _, _, _ => z
  | m + 1, t8, k0, k1 => slices_IndexFunc_i_Places_i_Places_l0_s z N s_n s_l s_c t7 h0_n h0 h1 t8 (fun t8 => slices_IndexFunc_i_Places_i_Places_l0 z N s_n s_l s_c t7 h0_n h0 h1 m t8 k0 k1) k0 k1

/-- slices.IndexFunc[[]impl.Places,impl.Places] -/
def slices_IndexFunc_i_Places_i_Places {β : Type} (z : β) (N : Nat) (s_n : Nat) (s_l : Nat) (s_c : Nat) (h0_n : Nat) (h0 : Nat → Int) (h1 : Int) (k0 : Int → β) : β :=
  cond (s_l.ble 9223372036854775807) (slices_IndexFunc_i_Places_i_Places_l0 z N s_n s_l s_c (↑s_l : Int) h0_n h0 h1 N 0 (fun q9 => k0 q9) (k0 (-1))) (z)

/-- slices.ContainsFunc[[]impl.Places,impl.Places] -/
def slices_ContainsFunc_i_Places_i_Places {β : Type} (z : β) (N : Nat) (s_n : Nat) (s_l : Nat) (s_c : Nat) (h0_n : Nat) (h0 : Nat → Int) (h1 : Int) (k0 : Bool → β) : β :=
  slices_IndexFunc_i_Places_i_Places z N s_n s_l s_c h0_n h0 h1 (fun q9 => k0 (decide (0 ≤ q9)))

/-- impl.arePlaces -/
def i_arePlaces {β : Type} (z : β) (N : Nat) (list_n : Nat) (list_l : Nat) (list_c : Nat) (k : Int) (h0_n : Nat) (h0 : Nat → Int) (k0 : Bool → β) : β :=
  i_within z N k 1 4 (fun q9 => cond (q9) (slices_ContainsFunc_i_Places_i_Places z N list_n list_l list_c h0_n h0 k (fun q10 => k0 (!q10))) (k0 false))

/-- impl.isTransitive, loop -/
def i_isTransitive_l2_s {β : Type} (z : β) (k : Int) (list_n : Nat) (list_l : Nat) (list_c : Nat) (x : Int) (t9 : Int) (t10 : Int) (t12 : Int) (t13 : Int) (t16_n : Nat) (t16_l : Nat) (t16_c : Nat) (t17 : Int) (h0_n : Nat) (h0 : Nat → Int) (reached : Int) (t18 : Int) (kn : Int → Int → β) (k0 : Int → β) : β :=
  cond (decide (t18 < t17)) (cond (t16_n.beq h0_n && (decide (0 ≤ t18) && decide (t18 < (↑t16_l : Int)))) (cond (t16_n.beq h0_n && (t18.toNat * 4 + 4).ble h0_n) (cond (decide (0 ≤ x) && decide (x < (↑64 : Int))) (cond (bitI BinOp.and IntKind.i64 (shrI reached x) 1 == 1) (cond (decide (0 ≤ x) && decide (x < (↑4 : Int))) (cond (x.toNat.blt 4) (cond (decide (0 ≤ shiftF h0 (t18.toNat * 4) x.toNat) && decide (shiftF h0 (t18.toNat * 4) x.toNat < (↑64 : Int))) (cond (fits IntKind.i64 (shlI 1 (shiftF h0 (t18.toNat * 4) x.toNat))) (cond (fits IntKind.i64 (t18 + 1)) (kn (bitI BinOp.or IntKind.i64 reached (shlI 1 (shiftF h0 (t18.toNat * 4) x.toNat))) (t18 + 1)) (z)) (z)) (z)) (z)) (z)) (cond (fits IntKind.i64 (t18 + 1)) (kn reached (t18 + 1)) (z))) (z)) (z)) (z)) (k0 reached)
def i_isTransitive_l2 {β : Type} (z : β) (k : Int) (list_n : Nat) (list_l : Nat) (list_c : Nat) (x : Int) (t9 : Int) (t10 : Int) (t12 : Int) (t13 : Int) (t16_n : Nat) (t16_l : Nat) (t16_c : Nat) (t17 : Int) (h0_n : Nat) (h0 : Nat → Int) : Nat → Int → Int → (Int → β) → β
  | 0, _, _, _ => z
  | m + 1, reached, t18, k0 => i_isTransitive_l2_s z k list_n list_l list_c x t9 t10 t12 t13 t16_n t16_l t16_c t17 h0_n h0 reached t18 (fun reached t18 => i_isTransitive_l2 z k list_n list_l list_c x t9 t10 t12 t13 t16_n t16_l t16_c t17 h0_n h0 m reached t18 k0) k0

/-- impl.isTransitive, loop -/
def i_isTransitive_l1_s {β : Type} (z : β) (N : Nat) (k : Int) (list_n : Nat) (list_l : Nat) (list_c : Nat) (t9 : Int) (t10 : Int) (t12 : Int) (h0_n : Nat) (h0 : Nat → Int) (reached : Int) (t13 : Int) (kn : Int → Int → β) (k0 : Int → β) : β :=
  cond (decide (t13 < t12)) (cond (list_l.ble 9223372036854775807) (i_isTransitive_l2 z k list_n list_l list_c t13 t9 t10 t12 t13 list_n list_l list_c (↑list_l : Int) h0_n h0 N reached 0 (fun q15 => cond (fits IntKind.i64 (t13 + 1)) (kn q15 (t13 + 1)) (z))) (z)) (k0 reached)
def i_isTransitive_l1 {β : Type} (z : β) (N : Nat) (k : Int) (list_n : Nat) (list_l : Nat) (list_c : Nat) (t9 : Int) (t10 : Int) (t12 : Int) (h0_n : Nat) (h0 : Nat → Int) : Nat → Int → Int → (Int → β) → β
  | 0, _, _, _ => z
  | m + 1, reached, t13, k0 => i_isTransitive_l1_s z N k list_n list_l list_c t9 t10 t12 h0_n h0 reached t13 (fun reached t13 => i_isTransitive_l1 z N k list_n list_l list_c t9 t10 t12 h0_n h0 m reached t13 k0) k0

/-- impl.isTransitive, loop -/
def i_isTransitive_l0_s {β : Type} (z : β) (N : Nat) (k : Int) (list_n : Nat) (list_l : Nat) (list_c : Nat) (t9 : Int) (h0_n : Nat) (h0 : Nat → Int) (reached : Int) (t10 : Int) (kn : Int → Int → β) (k0 : Int → β) : β :=
  cond (decide (t10 < t9)) (i_isTransitive_l1 z N k list_n list_l list_c t9 t10 k h0_n h0 N reached 0 (fun q13 => cond (fits IntKind.i64 (t10 + 1)) (kn q13 (t10 + 1)) (z))) (k0 reached)
def i_isTransitive_l0 {β : Type} (z : β) (N : Nat) (k : Int) (list_n : Nat) (list_l : Nat) (list_c : Nat) (t9 : Int) (h0_n : Nat) (h0 : Nat → Int) : Nat → Int → Int → (Int → β) → β
  | 0, _, _, _ => z
  | m + 1, reached, t10, k0 => i_isTransitive_l0_s z N k list_n list_l list_c t9 h0_n h0 reached t10 (fun reached t10 => i_isTransitive_l0 z N k list_n list_l list_c t9 h0_n h0 m reached t10 k0) k0

/-- impl.isTransitive -/
def i_isTransitive {β : Type} (z : β) (N : Nat) (k : Int) (list_n : Nat) (list_l : Nat) (list_c : Nat) (h0_n : Nat) (h0 : Nat → Int) (k0 : Bool → β) : β :=
  i_isTransitive_l0 z N k list_n list_l list_c k h0_n h0 N 1 0 (fun q9 => cond (decide (0 ≤ k) && decide (k < (↑64 : Int))) (cond (fits IntKind.i64 (shlI 1 k)) (cond (fits IntKind.i64 (shlI 1 k - 1)) (k0 (q9 == shlI 1 k - 1)) (z)) (z)) (z))

/-- impl.IsTransitive -/
def i_IsTransitive {β : Type} (z : β) (N : Nat) (k : Int) (list_n : Nat) (list_l : Nat) (list_c : Nat) (h0_n : Nat) (h0 : Nat → Int) (k0 : Bool → Int → β) : β :=
  i_arePlaces z N list_n list_l list_c k h0_n h0 (fun q9 => cond (!q9) (k0 false 2) (i_isTransitive z N k list_n list_l list_c h0_n h0 (fun q10 => k0 q10 0)))

/-- laws.eqPlaces, loop -/
def w_eqPlaces_l0_s {β : Type} (z : β) (h0 : Nat → Int) (h1 : Nat → Int) (i : Int) (kn : Int → β) (k0 : β) (k1 : β) : β :=
  cond (decide (i < 4)) (cond (decide (0 ≤ i) && decide (i < (↑4 : Int))) (cond (i.toNat.blt 4) (cond (decide (0 ≤ i) && decide (i < (↑4 : Int))) (cond (i.toNat.blt 4) (cond (h0 i.toNat != h1 i.toNat) (k0) (cond (fits IntKind.i64 (i + 1)) (kn (i + 1)) (z))) (z)) (z)) (z)) (z)) (k1)
def w_eqPlaces_l0 {β : Type} (z : β) (h0 : Nat → Int) (h1 : Nat → Int) : Nat → Int → β → β → β
  | 0, _, _, _ => z
  | m + 1, i, k0, k1 => w_eqPlaces_l0_s z h0 h1 i (fun i => w_eqPlaces_l0 z h0 h1 m i k0 k1) k0 k1

/-- laws.eqPlaces -/
def w_eqPlaces {β : Type} (z : β) (N : Nat) (a : Nat → Int) (b : Nat → Int) (k0 : Bool → β) : β :=
  w_eqPlaces_l0 z a b N 0 (k0 false) (k0 true)

/-- laws.eqPlacesS, loop -/
def w_eqPlacesS_l0_s {β : Type} (z : β) (N : Nat) (a_n : Nat) (a_l : Nat) (a_c : Nat) (b_n : Nat) (b_l : Nat) (b_c : Nat) (h0_n : Nat) (h0 : Nat → Int) (h1_n : Nat) (h1 : Nat → Int) (i : Int) (kn : Int → β) (k0 : β) (k1 : β) : β :=
  cond (a_l.ble 9223372036854775807) (cond (decide (i < (↑a_l : Int))) (cond (a_n.beq h0_n && (decide (0 ≤ i) && decide (i < (↑a_l : Int)))) (cond (a_n.beq h0_n && (i.toNat * 4 + 4).ble h0_n) (cond (b_n.beq h1_n && (decide (0 ≤ i) && decide (i < (↑b_l : Int)))) (cond (b_n.beq h1_n && (i.toNat * 4 + 4).ble h1_n) (w_eqPlaces z N (shiftF h0 (i.toNat * 4)) (shiftF h1 (i.toNat * 4)) (fun q15 => cond (!q15) (k0) (cond (fits IntKind.i64 (i + 1)) (kn (i + 1)) (z)))) (z)) (z)) (z)) (z)) (k1)) (z)
def w_eqPlacesS_l0 {β : Type} (z : β) (N : Nat) (a_n : Nat) (a_l : Nat) (a_c : Nat) (b_n : Nat) (b_l : Nat) (b_c : Nat) (h0_n : Nat) (h0 : Nat → Int) (h1_n : Nat) (h1 : Nat → Int) : Nat → Int → β → β → β
  | 0, _, _, _ => z
  | m + 1, i, k0, k1 => w_eqPlacesS_l0_s z N a_n a_l a_c b_n b_l b_c h0_n h0 h1_n h1 i (fun i => w_eqPlacesS_l0 z N a_n a_l a_c b_n b_l b_c h0_n h0 h1_n h1 m i k0 k1) k0 k1

/-- laws.eqPlacesS -/
def w_eqPlacesS {β : Type} (z : β) (N : Nat) (a_n : Nat) (a_l : Nat) (a_c : Nat) (b_n : Nat) (b_l : Nat) (b_c : Nat) (h0_n : Nat) (h0 : Nat → Int) (h1_n : Nat) (h1 : Nat → Int) (k0 : Bool → β) : β :=
  cond (a_l.ble 9223372036854775807) (cond (b_l.ble 9223372036854775807) (cond ((↑a_l : Int) != (↑b_l : Int)) (k0 false) (w_eqPlacesS_l0 z N a_n a_l a_c b_n b_l b_c h0_n h0 h1_n h1 N 0 (k0 false) (k0 true))) (z)) (z)

/-- laws.FnExactIsTransitive -/
def w_FnExactIsTransitive {β : Type} (z : β) (N : Nat) (aK : Int) (aList_n : Nat) (aList_l : Nat) (aList_c : Nat) (h0_n : Nat) (h0 : Nat → Int) (k0 : Bool → β) : β :=
  w_szPlacesS z N aList_n aList_l aList_c 1048576 h0_n h0 (fun q9 => cond (decide (q9 < 0)) (k0 true) (w_toPlacesS z N aList_n aList_l aList_c h0_n h0 (fun q10 q11 q12 q13 q14 => s_IsTransitive z N aK q10 q11 q12 q13 q14 (fun q15 q16 => w_toPlacesS z N aList_n aList_l aList_c h0_n h0 (fun q17 q18 q19 q20 q21 => i_IsTransitive z N aK q17 q18 q19 q20 q21 (fun q22 q23 => cond (q22 != q15) (k0 false) (cond (q23 != q16) (k0 false) (w_toPlacesS z N aList_n aList_l aList_c h0_n h0 (fun q24 q25 q26 q27 q28 => w_eqPlacesS z N q17 q18 q19 q24 q25 q26 q20 q21 q27 q28 (fun q29 => cond (!q29) (k0 false) (k0 true)))))))))))
end Go.AM
