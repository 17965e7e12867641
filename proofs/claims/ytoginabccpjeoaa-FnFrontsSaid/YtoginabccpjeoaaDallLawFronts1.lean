/- A part of a proof about the given program: an abstract machine, what the given functions come to, and plain laws. -/
import Derived.Test.YtoginabccpjeoaaMachA
set_option linter.unusedVariables false
set_option linter.unusedSimpArgs false
set_option maxRecDepth 100000
namespace Go.AM
/-- spec.l01In -/
def s_l01In {β : Type} (z : β) (N : Nat) (n : Int) (low : Int) (high : Int) (k0 : Bool → β) : β :=
  cond (decide (low ≤ n)) (k0 (decide (n ≤ high))) (k0 false)

/-- impl.within -/
def i_within {β : Type} (z : β) (N : Nat) (x : Int) (low : Int) (high : Int) (k0 : Bool → β) : β :=
  cond (decide (low ≤ x)) (k0 (decide (x ≤ high))) (k0 false)

end Go.AM

set_option maxRecDepth 100000
namespace Go.AM
/-- spec.l01Perm, loop -/
def s_l01Perm_l0_s {β : Type} (z : β) (n : Int) (h0 : Nat → Int) (i : Int) (h1 : Nat → Bool) (kn : Int → (Nat → Bool) → β) (k0 : (Nat → Bool) → β) (k1 : (Nat → Bool) → β) : β :=
  cond (decide (i < 8)) (cond (decide (n ≤ i)) (cond (decide (0 ≤ i) && decide (i < (↑8 : Int))) (cond (i.toNat.blt 8) (cond (h0 i.toNat != 0) (k0 h1) (cond (fits IntKind.i64 (i + 1)) (kn (i + 1) h1) (z))) (z)) (z)) (cond (decide (0 ≤ i) && decide (i < (↑8 : Int))) (cond (i.toNat.blt 8) (cond (decide (n ≤ h0 i.toNat)) (k0 h1) (cond (decide (0 ≤ i) && decide (i < (↑8 : Int))) (cond (i.toNat.blt 8) (cond (decide (0 ≤ h0 i.toNat) && decide (h0 i.toNat < (↑8 : Int))) (cond ((h0 i.toNat).toNat.blt 8) (cond (h1 (h0 i.toNat).toNat) (k0 h1) (cond (decide (0 ≤ i) && decide (i < (↑8 : Int))) (cond (i.toNat.blt 8) (cond (decide (0 ≤ h0 i.toNat) && decide (h0 i.toNat < (↑8 : Int))) (cond ((h0 i.toNat).toNat.blt 8) (cond (fits IntKind.i64 (i + 1)) (kn (i + 1) (upd h1 (h0 i.toNat).toNat true)) (z)) (z)) (z)) (z)) (z))) (z)) (z)) (z)) (z))) (z)) (z))) (k1 h1)
def s_l01Perm_l0 {β : Type} (z : β) (n : Int) (h0 : Nat → Int) : Nat → Int → (Nat → Bool) → ((Nat → Bool) → β) → ((Nat → Bool) → β) → β
  | 0, _, _, _, _ => z
  | m + 1, i, h1, k0, k1 => s_l01Perm_l0_s z n h0 i h1 (fun i h1 => s_l01Perm_l0 z n h0 m i h1 k0 k1) k0 k1

/-- spec.l01Perm -/
def s_l01Perm {β : Type} (z : β) (N : Nat) (list : Nat → Int) (n : Int) (k0 : Bool → β) : β :=
  s_l01Perm_l0 z n list N 0 (fun (x : Nat) => false) (fun q5 => k0 false) (fun q5 => k0 true)

/-- spec.l01Is, loop -/
def s_l01Is_l0_s {β : Type} (z : β) (h0_0 : Int) (h0_1 : Nat → Int) (h0_2 : Nat → Int) (i : Int) (kn : Int → β) (k0 : β) (k1 : β) : β :=
  cond (decide (i < h0_0)) (cond (decide (0 ≤ i) && decide (i < (↑8 : Int))) (cond (i.toNat.blt 8) (cond (decide (0 ≤ i) && decide (i < (↑8 : Int))) (cond (i.toNat.blt 8) (cond (h0_1 i.toNat == h0_2 i.toNat) (k0) (cond (fits IntKind.i64 (i + 1)) (kn (i + 1)) (z))) (z)) (z)) (z)) (z)) (k1)
def s_l01Is_l0 {β : Type} (z : β) (h0_0 : Int) (h0_1 : Nat → Int) (h0_2 : Nat → Int) : Nat → Int → β → β → β
  | 0, _, _, _ => z
  | m + 1, i, k0, k1 => s_l01Is_l0_s z h0_0 h0_1 h0_2 i (fun i => s_l01Is_l0 z h0_0 h0_1 h0_2 m i k0 k1) k0 k1

/-- spec.l01Is -/
def s_l01Is {β : Type} (z : β) (N : Nat) (g_0 : Int) (g_1 : Nat → Int) (g_2 : Nat → Int) (k0 : Bool → β) : β :=
  s_l01In z N g_0 2 8 (fun q6 => cond (!q6) (k0 false) (s_l01Perm z N g_1 g_0 (fun q7 => cond (!q7) (k0 false) (s_l01Perm z N g_2 g_0 (fun q8 => cond (!q8) (k0 false) (s_l01Is_l0 z g_0 g_1 g_2 N 0 (k0 false) (k0 true)))))))

/-- spec.LowerState -/
def s_LowerState {β : Type} (z : β) (N : Nat) (g_0 : Int) (g_1 : Nat → Int) (g_2 : Nat → Int) (k0 : (Nat → Int) → Int → β) : β :=
  s_l01Is z N g_0 g_1 g_2 (fun q6 => cond (!q6) (k0 (fun (x : Nat) => 0) 1) (k0 g_1 0))

/-- (impl.Grid).n -/
def i_Grid_n {β : Type} (z : β) (N : Nat) (g_0 : Int) (g_1 : Nat → Int) (g_2 : Nat → Int) (k0 : β) : β :=
  k0

/-- impl.isOrder, loop -/
def i_isOrder_l0_s2_s {β : Type} (z : β) (n : Int) (h0_0 : Int) (h0_1 : Nat → Int) (h0_2 : Nat → Int) (seen : Int) (t10 : Int) (kn : Int → Int → β) (k0 : β) (k1 : Int → β) : β :=
  cond (decide (t10 < 8)) (cond (decide (0 ≤ t10) && decide (t10 < (↑8 : Int))) (cond (t10.toNat.blt 8) (cond (decide (n ≤ t10)) (cond (h0_1 t10.toNat != 0) (k0) (cond (decide (n ≤ h0_1 t10.toNat)) (k0) (cond (decide (t10 < n)) (cond (decide (0 ≤ h0_1 t10.toNat) && decide (h0_1 t10.toNat < (↑64 : Int))) (cond (fits IntKind.i64 (shlI 1 (h0_1 t10.toNat))) (cond (fits IntKind.i64 (t10 + 1)) (kn (bitI BinOp.or IntKind.i64 seen (shlI 1 (h0_1 t10.toNat))) (t10 + 1)) (z)) (z)) (z)) (cond (fits IntKind.i64 (t10 + 1)) (kn seen (t10 + 1)) (z))))) (cond (decide (n ≤ h0_1 t10.toNat)) (k0) (cond (decide (t10 < n)) (cond (decide (0 ≤ h0_1 t10.toNat) && decide (h0_1 t10.toNat < (↑64 : Int))) (cond (fits IntKind.i64 (shlI 1 (h0_1 t10.toNat))) (cond (fits IntKind.i64 (t10 + 1)) (kn (bitI BinOp.or IntKind.i64 seen (shlI 1 (h0_1 t10.toNat))) (t10 + 1)) (z)) (z)) (z)) (cond (fits IntKind.i64 (t10 + 1)) (kn seen (t10 + 1)) (z))))) (z)) (z)) (k1 seen)
def i_isOrder_l0_s2 {β : Type} (z : β) (n : Int) (h0_0 : Int) (h0_1 : Nat → Int) (h0_2 : Nat → Int) : Nat → Int → Int → β → (Int → β) → β
  | 0, _, _, _, _ => z
  | m + 1, seen, t10, k0, k1 => i_isOrder_l0_s2_s z n h0_0 h0_1 h0_2 seen t10 (fun seen t10 => i_isOrder_l0_s2 z n h0_0 h0_1 h0_2 m seen t10 k0 k1) k0 k1

/-- impl.isOrder -/
def i_isOrder_s2 {β : Type} (z : β) (N : Nat) (n : Int) (h0_0 : Int) (h0_1 : Nat → Int) (h0_2 : Nat → Int) (k0 : Bool → β) : β :=
  i_isOrder_l0_s2 z n h0_0 h0_1 h0_2 N 0 0 (k0 false) (fun q7 => cond (decide (0 ≤ n) && decide (n < (↑64 : Int))) (cond (fits IntKind.i64 (shlI 1 n)) (cond (fits IntKind.i64 (shlI 1 n - 1)) (k0 (q7 == shlI 1 n - 1)) (z)) (z)) (z))

/-- impl.isOrder, loop -/
def i_isOrder_l0_s3_s {β : Type} (z : β) (n : Int) (h0_0 : Int) (h0_1 : Nat → Int) (h0_2 : Nat → Int) (seen : Int) (t10 : Int) (kn : Int → Int → β) (k0 : β) (k1 : Int → β) : β :=
  cond (decide (t10 < 8)) (cond (decide (0 ≤ t10) && decide (t10 < (↑8 : Int))) (cond (t10.toNat.blt 8) (cond (decide (n ≤ t10)) (cond (h0_2 t10.toNat != 0) (k0) (cond (decide (n ≤ h0_2 t10.toNat)) (k0) (cond (decide (t10 < n)) (cond (decide (0 ≤ h0_2 t10.toNat) && decide (h0_2 t10.toNat < (↑64 : Int))) (cond (fits IntKind.i64 (shlI 1 (h0_2 t10.toNat))) (cond (fits IntKind.i64 (t10 + 1)) (kn (bitI BinOp.or IntKind.i64 seen (shlI 1 (h0_2 t10.toNat))) (t10 + 1)) (z)) (z)) (z)) (cond (fits IntKind.i64 (t10 + 1)) (kn seen (t10 + 1)) (z))))) (cond (decide (n ≤ h0_2 t10.toNat)) (k0) (cond (decide (t10 < n)) (cond (decide (0 ≤ h0_2 t10.toNat) && decide (h0_2 t10.toNat < (↑64 : Int))) (cond (fits IntKind.i64 (shlI 1 (h0_2 t10.toNat))) (cond (fits IntKind.i64 (t10 + 1)) (kn (bitI BinOp.or IntKind.i64 seen (shlI 1 (h0_2 t10.toNat))) (t10 + 1)) (z)) (z)) (z)) (cond (fits IntKind.i64 (t10 + 1)) (kn seen (t10 + 1)) (z))))) (z)) (z)) (k1 seen)
def i_isOrder_l0_s3 {β : Type} (z : β) (n : Int) (h0_0 : Int) (h0_1 : Nat → Int) (h0_2 : Nat → Int) : Nat → Int → Int → β → (Int → β) → β
  | 0, _, _, _, _ => z
  | m + 1, seen, t10, k0, k1 => i_isOrder_l0_s3_s z n h0_0 h0_1 h0_2 seen t10 (fun seen t10 => i_isOrder_l0_s3 z n h0_0 h0_1 h0_2 m seen t10 k0 k1) k0 k1

/-- impl.isOrder -/
def i_isOrder_s3 {β : Type} (z : β) (N : Nat) (n : Int) (h0_0 : Int) (h0_1 : Nat → Int) (h0_2 : Nat → Int) (k0 : Bool → β) : β :=
  i_isOrder_l0_s3 z n h0_0 h0_1 h0_2 N 0 0 (k0 false) (fun q7 => cond (decide (0 ≤ n) && decide (n < (↑64 : Int))) (cond (fits IntKind.i64 (shlI 1 n)) (cond (fits IntKind.i64 (shlI 1 n - 1)) (k0 (q7 == shlI 1 n - 1)) (z)) (z)) (z))

/-- impl.IsGrid, loop -/
def i_IsGrid_l0_s {β : Type} (z : β) (t25 : Int) (h0_0 : Int) (h0_1 : Nat → Int) (h0_2 : Nat → Int) (t26 : Int) (kn : Int → β) (k0 : β) (k1 : β) : β :=
  cond (decide (t26 < t25)) (cond (decide (0 ≤ t26) && decide (t26 < (↑8 : Int))) (cond (t26.toNat.blt 8) (cond (decide (0 ≤ t26) && decide (t26 < (↑8 : Int))) (cond (t26.toNat.blt 8) (cond (h0_1 t26.toNat == h0_2 t26.toNat) (k0) (cond (fits IntKind.i64 (t26 + 1)) (kn (t26 + 1)) (z))) (z)) (z)) (z)) (z)) (k1)
def i_IsGrid_l0 {β : Type} (z : β) (t25 : Int) (h0_0 : Int) (h0_1 : Nat → Int) (h0_2 : Nat → Int) : Nat → Int → β → β → β
  | 0, _, _, _ => z
  | m + 1, t26, k0, k1 => i_IsGrid_l0_s z t25 h0_0 h0_1 h0_2 t26 (fun t26 => i_IsGrid_l0 z t25 h0_0 h0_1 h0_2 m t26 k0 k1) k0 k1

/-- impl.IsGrid -/
def i_IsGrid {β : Type} (z : β) (N : Nat) (g_0 : Int) (g_1 : Nat → Int) (g_2 : Nat → Int) (k0 : Bool → β) : β :=
  i_within z N g_0 2 8 (fun q6 => cond (!q6) (k0 false) (i_Grid_n z N g_0 g_1 g_2 (i_isOrder_s2 z N g_0 g_0 g_1 g_2 (fun q7 => cond (!q7) (k0 false) (i_Grid_n z N g_0 g_1 g_2 (i_isOrder_s3 z N g_0 g_0 g_1 g_2 (fun q8 => cond (!q8) (k0 false) (i_Grid_n z N g_0 g_1 g_2 (i_IsGrid_l0 z g_0 g_0 g_1 g_2 N 0 (k0 false) (k0 true))))))))))

/-- impl.LowerState$1 -/
def i_LowerState_1 {β : Type} (z : β) (N : Nat) (g_0 : Int) (g_1 : Nat → Int) (g_2 : Nat → Int) (k0 : β) : β :=
  k0

/-- impl.whole[impl.State] -/
def i_whole_i_State {β : Type} (z : β) (N : Nat) (g_0 : Int) (g_1 : Nat → Int) (g_2 : Nat → Int) (k0 : (Nat → Int) → Int → β) : β :=
  i_IsGrid z N g_0 g_1 g_2 (fun q6 => cond (!q6) (k0 (fun (x : Nat) => 0) 1) (i_LowerState_1 z N g_0 g_1 g_2 (k0 g_1 0)))

/-- impl.LowerState -/
def i_LowerState {β : Type} (z : β) (N : Nat) (g_0 : Int) (g_1 : Nat → Int) (g_2 : Nat → Int) (k0 : (Nat → Int) → Int → β) : β :=
  i_whole_i_State z N g_0 g_1 g_2 (fun q6 q7 => k0 q6 q7)

end Go.AM

set_option maxRecDepth 100000
namespace Go.AM
end Go.AM

set_option maxRecDepth 100000
namespace Go.AM
/-- spec.l01Rolled, loop -/
def s_l01Rolled_l0_s {β : Type} (z : β) (t1 : Int) (t2 : Int) (t7 : Int) (h0_0 : Int) (h0_1 : Nat → Int) (h0_2 : Nat → Int) (h1_0 : Int) (h1_1 : Nat → Int) (h1_2 : Nat → Int) (h2_0 : Int) (t9 : Int) (h2_1 : Nat → Int) (h2_2 : Nat → Int) (kn : Int → (Nat → Int) → (Nat → Int) → β) (k0 : (Nat → Int) → (Nat → Int) → β) : β :=
  cond (decide (t9 < t7)) (cond (fits IntKind.i64 (t9 + t2)) (cond (!t7 == 0) (cond (fits IntKind.i64 ((t9 + t2).tmod t7 + t7)) (cond (!t7 == 0) (cond (decide (0 ≤ t9) && decide (t9 < (↑8 : Int))) (cond (t9.toNat.blt 8) (cond (fits IntKind.i64 (h0_1 t9.toNat + t1)) (cond (!t7 == 0) (cond (fits IntKind.i64 ((h0_1 t9.toNat + t1).tmod t7 + t7)) (cond (!t7 == 0) (cond (decide (0 ≤ ((t9 + t2).tmod t7 + t7).tmod t7) && decide (((t9 + t2).tmod t7 + t7).tmod t7 < (↑8 : Int))) (cond ((((t9 + t2).tmod t7 + t7).tmod t7).toNat.blt 8) (cond (decide (0 ≤ t9) && decide (t9 < (↑8 : Int))) (cond (t9.toNat.blt 8) (cond (fits IntKind.i64 (h0_2 t9.toNat + t1)) (cond (!t7 == 0) (cond (fits IntKind.i64 ((h0_2 t9.toNat + t1).tmod t7 + t7)) (cond (!t7 == 0) (cond (decide (0 ≤ ((t9 + t2).tmod t7 + t7).tmod t7) && decide (((t9 + t2).tmod t7 + t7).tmod t7 < (↑8 : Int))) (cond ((((t9 + t2).tmod t7 + t7).tmod t7).toNat.blt 8) (cond (fits IntKind.i64 (t9 + 1)) (kn (t9 + 1) (upd h2_1 (((t9 + t2).tmod t7 + t7).tmod t7).toNat (wrapU IntKind.u8 (((h0_1 t9.toNat + t1).tmod t7 + t7).tmod t7))) (upd h2_2 (((t9 + t2).tmod t7 + t7).tmod t7).toNat (wrapU IntKind.u8 (((h0_2 t9.toNat + t1).tmod t7 + t7).tmod t7)))) (z)) (z)) (z)) (z)) (z)) (z)) (z)) (z)) (z)) (z)) (z)) (z)) (z)) (z)) (z)) (z)) (z)) (z)) (z)) (z)) (z)) (k0 h2_1 h2_2)
def s_l01Rolled_l0 {β : Type} (z : β) (t1 : Int) (t2 : Int) (t7 : Int) (h0_0 : Int) (h0_1 : Nat → Int) (h0_2 : Nat → Int) (h1_0 : Int) (h1_1 : Nat → Int) (h1_2 : Nat → Int) (h2_0 : Int) : Nat → Int → (Nat → Int) → (Nat → Int) → ((Nat → Int) → (Nat → Int) → β) → β
  | 0, _, _, _, _ => z
  | m + 1, t9, h2_1, h2_2, k0 => s_l01Rolled_l0_s z t1 t2 t7 h0_0 h0_1 h0_2 h1_0 h1_1 h1_2 h2_0 t9 h2_1 h2_2 (fun t9 h2_1 h2_2 => s_l01Rolled_l0 z t1 t2 t7 h0_0 h0_1 h0_2 h1_0 h1_1 h1_2 h2_0 m t9 h2_1 h2_2 k0) k0

/-- spec.l01Rolled -/
def s_l01Rolled {β : Type} (z : β) (N : Nat) (g_0 : Int) (g_1 : Nat → Int) (g_2 : Nat → Int) (a1 : Int) (a2 : Int) (k0 : (Nat → Int) → (Nat → Int) → β) : β :=
  s_l01Rolled_l0 z a1 a2 g_0 g_0 g_1 g_2 0 (fun (x : Nat) => 0) (fun (x : Nat) => 0) g_0 N 0 (fun (x : Nat) => 0) (fun (x : Nat) => 0) (fun q8 q9 => k0 q8 q9)

end Go.AM

set_option maxRecDepth 100000
namespace Go.AM
/-- spec.l01Row, loop -/
def s_l01Row_l0_s {β : Type} (z : β) (n : Int) (r_ : Int) (h0 : Nat → Int) (i : Int) (kn : Int → β) (k0 : Int → β) (k1 : β) : β :=
  cond (decide (i < n)) (cond (decide (0 ≤ i) && decide (i < (↑8 : Int))) (cond (i.toNat.blt 8) (cond (h0 i.toNat == r_) (k0 i) (cond (fits IntKind.i64 (i + 1)) (kn (i + 1)) (z))) (z)) (z)) (k1)
def s_l01Row_l0 {β : Type} (z : β) (n : Int) (r_ : Int) (h0 : Nat → Int) : Nat → Int → (Int → β) → β → β
  | 0, _, _, _ => z
  | m + 1, i, k0, k1 => s_l01Row_l0_s z n r_ h0 i (fun i => s_l01Row_l0 z n r_ h0 m i k0 k1) k0 k1

/-- spec.l01Row -/
def s_l01Row {β : Type} (z : β) (N : Nat) (list : Nat → Int) (n : Int) (r_ : Int) (k0 : Int → β) : β :=
  s_l01Row_l0 z n r_ list N 0 (fun q6 => k0 q6) (k0 0)

/-- (impl.Grid).places, loop -/
def i_Grid_places_l0_s {β : Type} (z : β) (t9 : Int) (h0_0 : Int) (h0_1 : Nat → Int) (h0_2 : Nat → Int) (h1 : Nat → Int) (h2 : Nat → Int) (t10 : Int) (h3 : Nat → Int) (kn : Int → (Nat → Int) → β) (k0 : (Nat → Int) → β) : β :=
  cond (decide (t10 < t9)) (cond (decide (0 ≤ t10) && decide (t10 < (↑8 : Int))) (cond (t10.toNat.blt 8) (cond (decide (0 ≤ h1 t10.toNat) && decide (h1 t10.toNat < (↑8 : Int))) (cond ((h1 t10.toNat).toNat.blt 8) (cond (fits IntKind.i64 (t10 + 1)) (kn (t10 + 1) (upd h3 (h1 t10.toNat).toNat t10)) (z)) (z)) (z)) (z)) (z)) (k0 h3)
def i_Grid_places_l0 {β : Type} (z : β) (t9 : Int) (h0_0 : Int) (h0_1 : Nat → Int) (h0_2 : Nat → Int) (h1 : Nat → Int) (h2 : Nat → Int) : Nat → Int → (Nat → Int) → ((Nat → Int) → β) → β
  | 0, _, _, _ => z
  | m + 1, t10, h3, k0 => i_Grid_places_l0_s z t9 h0_0 h0_1 h0_2 h1 h2 t10 h3 (fun t10 h3 => i_Grid_places_l0 z t9 h0_0 h0_1 h0_2 h1 h2 m t10 h3 k0) k0

/-- (impl.Grid).places -/
def i_Grid_places {β : Type} (z : β) (N : Nat) (g_0 : Int) (g_1 : Nat → Int) (g_2 : Nat → Int) (rows : Nat → Int) (k0 : (Nat → Int) → β) : β :=
  i_Grid_n z N g_0 g_1 g_2 (i_Grid_places_l0 z g_0 g_0 g_1 g_2 rows (fun (x : Nat) => 0) N 0 (fun (x : Nat) => 0) (fun q7 => k0 q7))

end Go.AM

set_option maxRecDepth 100000
namespace Go.AM
end Go.AM

set_option maxRecDepth 100000
namespace Go.AM
/-- laws.big -/
def w_big {β : Type} (z : β) (N : Nat) (code_n : Nat) (code_l : Nat) (code_c : Nat) (h0_n : Nat) (h0 : Nat → Int) (k0 : Bool → β) : β :=
  cond (code_l.ble 9223372036854775807) (k0 (decide (4096 < (↑code_l : Int)))) (z)

/-- spec.l01From, loop -/
def s_l01From_l0_s {β : Type} (z : β) (code_n : Nat) (code_l : Nat) (code_c : Nat) (h0_n : Nat) (h0 : Nat → Int) (h1_0_n : Nat) (h1_0_l : Nat) (h1_0_c : Nat) (h1_1 : Int) (i : Int) (h1_2 : Int) (kn : Int → Int → β) (k0 : Int → β) : β :=
  cond (code_l.ble 9223372036854775807) (cond (decide (i < (↑code_l : Int))) (cond (decide (i < 4096)) (cond (code_n.beq h0_n && (decide (0 ≤ i) && decide (i < (↑code_l : Int)))) (cond (code_n.beq h0_n && i.toNat.blt h0_n) (cond (fits IntKind.i64 (i + 1)) (kn (i + 1) (wrapU IntKind.u64 (wrapU IntKind.u64 (wrapU IntKind.u64 (h1_2 * 1099511628211) + h0 i.toNat) + 43))) (z)) (z)) (z)) (k0 h1_2)) (k0 h1_2)) (z)
def s_l01From_l0 {β : Type} (z : β) (code_n : Nat) (code_l : Nat) (code_c : Nat) (h0_n : Nat) (h0 : Nat → Int) (h1_0_n : Nat) (h1_0_l : Nat) (h1_0_c : Nat) (h1_1 : Int) : Nat → Int → Int → (Int → β) → β
  | 0, _, _, _ => z
  | m + 1, i, h1_2, k0 => s_l01From_l0_s z code_n code_l code_c h0_n h0 h1_0_n h1_0_l h1_0_c h1_1 i h1_2 (fun i h1_2 => s_l01From_l0 z code_n code_l code_c h0_n h0 h1_0_n h1_0_l h1_0_c h1_1 m i h1_2 k0) k0

/-- spec.l01From -/
def s_l01From {β : Type} (z : β) (N : Nat) (code_n : Nat) (code_l : Nat) (code_c : Nat) (h0_n : Nat) (h0 : Nat → Int) (k0 : Int → Int → β) : β :=
  cond (code_l.ble 9223372036854775807) (s_l01From_l0 z code_n code_l code_c h0_n h0 code_n code_l code_c 0 N 0 (wrapU IntKind.u64 (10711 + wrapU IntKind.u64 (↑code_l : Int))) (fun q8 => k0 0 q8)) (z)

/-- spec.l01Next -/
def s_l01Next_s2 {β : Type} (z : β) (N : Nat) (n : Int) (h0_n : Nat) (h0 : Nat → Int) (h1_0_n : Nat) (h1_0_l : Nat) (h1_0_c : Nat) (h1_1 : Int) (h1_2 : Int) (k0 : Int → Int → Int → β) : β :=
  cond (decide (n < 1)) (k0 0 h1_1 h1_2) (cond (fits IntKind.i64 (bitI BinOp.and IntKind.u64 (shrI (wrapU IntKind.u64 (wrapU IntKind.u64 (h1_2 * 6364136223846793005) + 1442695040888963407)) 33) 16777215)) (cond (h1_0_l.ble 9223372036854775807) (cond (decide (h1_1 < (↑h1_0_l : Int))) (cond (h1_0_n.beq h0_n && (decide (0 ≤ h1_1) && decide (h1_1 < (↑h1_0_l : Int)))) (cond (h1_0_n.beq h0_n && h1_1.toNat.blt h0_n) (cond (fits IntKind.i64 (bitI BinOp.and IntKind.u64 (shrI (wrapU IntKind.u64 (wrapU IntKind.u64 (h1_2 * 6364136223846793005) + 1442695040888963407)) 33) 16777215 + h0 h1_1.toNat)) (cond (fits IntKind.i64 (h1_1 + 1)) (cond (!n == 0) (k0 ((bitI BinOp.and IntKind.u64 (shrI (wrapU IntKind.u64 (wrapU IntKind.u64 (h1_2 * 6364136223846793005) + 1442695040888963407)) 33) 16777215 + h0 h1_1.toNat).tmod n) (h1_1 + 1) (wrapU IntKind.u64 (wrapU IntKind.u64 (h1_2 * 6364136223846793005) + 1442695040888963407))) (z)) (z)) (z)) (z)) (z)) (cond (!n == 0) (k0 ((bitI BinOp.and IntKind.u64 (shrI (wrapU IntKind.u64 (wrapU IntKind.u64 (h1_2 * 6364136223846793005) + 1442695040888963407)) 33) 16777215).tmod n) h1_1 (wrapU IntKind.u64 (wrapU IntKind.u64 (h1_2 * 6364136223846793005) + 1442695040888963407))) (z))) (z)) (z))

/-- spec.l01Pick -/
def s_l01Pick_s3 {β : Type} (z : β) (N : Nat) (h0_n : Nat) (h0 : Nat → Int) (h1_0_n : Nat) (h1_0_l : Nat) (h1_0_c : Nat) (h1_1 : Int) (h1_2 : Int) (h2 : List Int) (k0 : Int → Int → Int → β) : β :=
  s_l01Next_s2 z N 3 h0_n h0 h1_0_n h1_0_l h1_0_c h1_1 h1_2 (fun q11 q12 q13 => cond (Nat.beq 3 h2.length && (decide (0 ≤ q11) && decide (q11 < (↑3 : Int)))) (cond (Nat.beq 3 h2.length && q11.toNat.blt h2.length) (k0 (h2[q11.toNat]?.getD 0) q12 q13) (z)) (z))

/-- spec.l01Mixed, loop -/
def s_l01Mixed_l0_s2_s {β : Type} (z : β) (n : Int) (h0_n : Nat) (h0 : Nat → Int) (h1_0_n : Nat) (h1_0_l : Nat) (h1_0_c : Nat) (h1_1 : Int) (h1_2 : Int) (h2 : Nat → Int) (i : Int) (h3 : Nat → Int) (kn : Int → (Nat → Int) → β) (k0 : (Nat → Int) → β) : β :=
  cond (decide (i < n)) (cond (decide (0 ≤ i) && decide (i < (↑8 : Int))) (cond (i.toNat.blt 8) (cond (fits IntKind.i64 (i + 1)) (kn (i + 1) (upd h3 i.toNat (wrapU IntKind.u8 i))) (z)) (z)) (z)) (k0 h3)
def s_l01Mixed_l0_s2 {β : Type} (z : β) (n : Int) (h0_n : Nat) (h0 : Nat → Int) (h1_0_n : Nat) (h1_0_l : Nat) (h1_0_c : Nat) (h1_1 : Int) (h1_2 : Int) (h2 : Nat → Int) : Nat → Int → (Nat → Int) → ((Nat → Int) → β) → β
  | 0, _, _, _ => z
  | m + 1, i, h3, k0 => s_l01Mixed_l0_s2_s z n h0_n h0 h1_0_n h1_0_l h1_0_c h1_1 h1_2 h2 i h3 (fun i h3 => s_l01Mixed_l0_s2 z n h0_n h0 h1_0_n h1_0_l h1_0_c h1_1 h1_2 h2 m i h3 k0) k0

/-- spec.l01Mixed, loop -/
def s_l01Mixed_l1_s2_s {β : Type} (z : β) (N : Nat) (h0_n : Nat) (h0 : Nat → Int) (h1_0_n : Nat) (h1_0_l : Nat) (h1_0_c : Nat) (h2 : Nat → Int) (i : Int) (h1_1 : Int) (h1_2 : Int) (h3 : Nat → Int) (kn : Int → Int → Int → (Nat → Int) → β) (k0 : Int → Int → (Nat → Int) → β) : β :=
  cond (decide (0 < i)) (cond (fits IntKind.i64 (i + 1)) (s_l01Next_s2 z N (i + 1) h0_n h0 h1_0_n h1_0_l h1_0_c h1_1 h1_2 (fun q14 q15 q16 => cond (decide (0 ≤ i) && decide (i < (↑8 : Int))) (cond (i.toNat.blt 8) (cond (decide (0 ≤ q14) && decide (q14 < (↑8 : Int))) (cond (q14.toNat.blt 8) (cond (decide (0 ≤ i) && decide (i < (↑8 : Int))) (cond (i.toNat.blt 8) (cond (decide (0 ≤ q14) && decide (q14 < (↑8 : Int))) (cond (q14.toNat.blt 8) (cond (fits IntKind.i64 (i - 1)) (kn (i - 1) q15 q16 (upd (upd h3 i.toNat (h3 q14.toNat)) q14.toNat (h3 i.toNat))) (z)) (z)) (z)) (z)) (z)) (z)) (z)) (z)) (z))) (z)) (k0 h1_1 h1_2 h3)
def s_l01Mixed_l1_s2 {β : Type} (z : β) (N : Nat) (h0_n : Nat) (h0 : Nat → Int) (h1_0_n : Nat) (h1_0_l : Nat) (h1_0_c : Nat) (h2 : Nat → Int) : Nat → Int → Int → Int → (Nat → Int) → (Int → Int → (Nat → Int) → β) → β
  | 0, _, _, _, _, _ => z
  | m + 1, i, h1_1, h1_2, h3, k0 => s_l01Mixed_l1_s2_s z N h0_n h0 h1_0_n h1_0_l h1_0_c h2 i h1_1 h1_2 h3 (fun i h1_1 h1_2 h3 => s_l01Mixed_l1_s2 z N h0_n h0 h1_0_n h1_0_l h1_0_c h2 m i h1_1 h1_2 h3 k0) k0

/-- spec.l01Mixed -/
def s_l01Mixed_s2 {β : Type} (z : β) (N : Nat) (n : Int) (h0_n : Nat) (h0 : Nat → Int) (h1_0_n : Nat) (h1_0_l : Nat) (h1_0_c : Nat) (h1_1 : Int) (h1_2 : Int) (k0 : (Nat → Int) → Int → Int → β) : β :=
  s_l01Mixed_l0_s2 z n h0_n h0 h1_0_n h1_0_l h1_0_c h1_1 h1_2 (fun (x : Nat) => 0) N 0 (fun (x : Nat) => 0) (fun q11 => cond (fits IntKind.i64 (n - 1)) (s_l01Mixed_l1_s2 z N h0_n h0 h1_0_n h1_0_l h1_0_c (fun (x : Nat) => 0) N (n - 1) h1_1 h1_2 q11 (fun q12 q13 q14 => k0 q14 q12 q13)) (z))

/-- spec.l01DrawSize, loop -/
def s_l01DrawSize_l0_s2_s {β : Type} (z : β) (t1 : Int) (h0_n : Nat) (h0 : Nat → Int) (h1_0_n : Nat) (h1_0_l : Nat) (h1_0_c : Nat) (h1_1 : Int) (h1_2 : Int) (h2_0 : Int) (h2_1 : Nat → Int) (h2_2 : Nat → Int) (h3 : Nat → Int) (t7 : Int) (h4 : Nat → Int) (kn : Int → (Nat → Int) → β) (k0 : (Nat → Int) → β) : β :=
  cond (fits IntKind.i64 (3 * t1)) (cond (decide (t7 < 3 * t1)) (cond (!t1 == 0) (cond (decide (0 ≤ t7.tmod t1) && decide (t7.tmod t1 < (↑8 : Int))) (cond ((t7.tmod t1).toNat.blt 8) (cond (decide (0 ≤ t7.tmod t1) && decide (t7.tmod t1 < (↑8 : Int))) (cond ((t7.tmod t1).toNat.blt 8) (cond (h3 (t7.tmod t1).toNat == h4 (t7.tmod t1).toNat) (cond (fits IntKind.i64 (t7.tmod t1 + 1)) (cond (!t1 == 0) (cond (decide (0 ≤ t7.tmod t1) && decide (t7.tmod t1 < (↑8 : Int))) (cond ((t7.tmod t1).toNat.blt 8) (cond (decide (0 ≤ (t7.tmod t1 + 1).tmod t1) && decide ((t7.tmod t1 + 1).tmod t1 < (↑8 : Int))) (cond (((t7.tmod t1 + 1).tmod t1).toNat.blt 8) (cond (decide (0 ≤ t7.tmod t1) && decide (t7.tmod t1 < (↑8 : Int))) (cond ((t7.tmod t1).toNat.blt 8) (cond (decide (0 ≤ (t7.tmod t1 + 1).tmod t1) && decide ((t7.tmod t1 + 1).tmod t1 < (↑8 : Int))) (cond (((t7.tmod t1 + 1).tmod t1).toNat.blt 8) (cond (fits IntKind.i64 (t7 + 1)) (kn (t7 + 1) (upd (upd h4 (t7.tmod t1).toNat (h4 ((t7.tmod t1 + 1).tmod t1).toNat)) ((t7.tmod t1 + 1).tmod t1).toNat (h4 (t7.tmod t1).toNat))) (z)) (z)) (z)) (z)) (z)) (z)) (z)) (z)) (z)) (z)) (z)) (cond (fits IntKind.i64 (t7 + 1)) (kn (t7 + 1) h4) (z))) (z)) (z)) (z)) (z)) (z)) (k0 h4)) (z)
def s_l01DrawSize_l0_s2 {β : Type} (z : β) (t1 : Int) (h0_n : Nat) (h0 : Nat → Int) (h1_0_n : Nat) (h1_0_l : Nat) (h1_0_c : Nat) (h1_1 : Int) (h1_2 : Int) (h2_0 : Int) (h2_1 : Nat → Int) (h2_2 : Nat → Int) (h3 : Nat → Int) : Nat → Int → (Nat → Int) → ((Nat → Int) → β) → β
  | 0, _, _, _ => z
  | m + 1, t7, h4, k0 => s_l01DrawSize_l0_s2_s z t1 h0_n h0 h1_0_n h1_0_l h1_0_c h1_1 h1_2 h2_0 h2_1 h2_2 h3 t7 h4 (fun t7 h4 => s_l01DrawSize_l0_s2 z t1 h0_n h0 h1_0_n h1_0_l h1_0_c h1_1 h1_2 h2_0 h2_1 h2_2 h3 m t7 h4 k0) k0

/-- spec.l01DrawSize, loop -/
def s_l01DrawSize_l1_s2_s {β : Type} (z : β) (t1 : Int) (h0_n : Nat) (h0 : Nat → Int) (h1_0_n : Nat) (h1_0_l : Nat) (h1_0_c : Nat) (h1_1 : Int) (h1_2 : Int) (h2_0 : Int) (h2_1 : Nat → Int) (h2_2 : Nat → Int) (h3 : Nat → Int) (h4 : Nat → Int) (h5_0 : Int) (h5_1 : Nat → Int) (t12 : Int) (h5_2 : Nat → Int) (kn : Int → (Nat → Int) → β) (k0 : (Nat → Int) → β) : β :=
  cond (decide (t12 < t1)) (cond (decide (0 ≤ t12) && decide (t12 < (↑8 : Int))) (cond (t12.toNat.blt 8) (cond (fits IntKind.i64 (h3 t12.toNat + 1)) (cond (!t1 == 0) (cond (decide (0 ≤ t12) && decide (t12 < (↑8 : Int))) (cond (t12.toNat.blt 8) (cond (fits IntKind.i64 (t12 + 1)) (kn (t12 + 1) (upd h5_2 t12.toNat (wrapU IntKind.u8 ((h3 t12.toNat + 1).tmod t1)))) (z)) (z)) (z)) (z)) (z)) (z)) (z)) (k0 h5_2)
def s_l01DrawSize_l1_s2 {β : Type} (z : β) (t1 : Int) (h0_n : Nat) (h0 : Nat → Int) (h1_0_n : Nat) (h1_0_l : Nat) (h1_0_c : Nat) (h1_1 : Int) (h1_2 : Int) (h2_0 : Int) (h2_1 : Nat → Int) (h2_2 : Nat → Int) (h3 : Nat → Int) (h4 : Nat → Int) (h5_0 : Int) (h5_1 : Nat → Int) : Nat → Int → (Nat → Int) → ((Nat → Int) → β) → β
  | 0, _, _, _ => z
  | m + 1, t12, h5_2, k0 => s_l01DrawSize_l1_s2_s z t1 h0_n h0 h1_0_n h1_0_l h1_0_c h1_1 h1_2 h2_0 h2_1 h2_2 h3 h4 h5_0 h5_1 t12 h5_2 (fun t12 h5_2 => s_l01DrawSize_l1_s2 z t1 h0_n h0 h1_0_n h1_0_l h1_0_c h1_1 h1_2 h2_0 h2_1 h2_2 h3 h4 h5_0 h5_1 m t12 h5_2 k0) k0

/-- spec.l01DrawSize -/
def s_l01DrawSize_s2 {β : Type} (z : β) (N : Nat) (a1 : Int) (h0_n : Nat) (h0 : Nat → Int) (h1_0_n : Nat) (h1_0_l : Nat) (h1_0_c : Nat) (h1_1 : Int) (h1_2 : Int) (k0 : (Nat → Int) → (Nat → Int) → Int → Int → β) : β :=
  s_l01Mixed_s2 z N a1 h0_n h0 h1_0_n h1_0_l h1_0_c h1_1 h1_2 (fun q11 q12 q13 => s_l01Mixed_s2 z N a1 h0_n h0 h1_0_n h1_0_l h1_0_c q12 q13 (fun q14 q15 q16 => s_l01DrawSize_l0_s2 z a1 h0_n h0 h1_0_n h1_0_l h1_0_c q15 q16 0 (fun (x : Nat) => 0) (fun (x : Nat) => 0) q11 N 0 q14 (fun q17 => s_l01Is z N a1 q11 q17 (fun q18 => cond (!q18) (s_l01DrawSize_l1_s2 z a1 h0_n h0 h1_0_n h1_0_l h1_0_c q15 q16 0 (fun (x : Nat) => 0) (fun (x : Nat) => 0) q11 q17 a1 q11 N 0 q17 (fun q19 => k0 q11 q19 q15 q16)) (k0 q11 q17 q15 q16)))))

/-- spec.l01Pick -/
def s_l01Pick_s4 {β : Type} (z : β) (N : Nat) (h0_n : Nat) (h0 : Nat → Int) (h1_0_n : Nat) (h1_0_l : Nat) (h1_0_c : Nat) (h1_1 : Int) (h1_2 : Int) (h2 : List Int) (k0 : Int → Int → Int → β) : β :=
  s_l01Next_s2 z N 5 h0_n h0 h1_0_n h1_0_l h1_0_c h1_1 h1_2 (fun q11 q12 q13 => cond (Nat.beq 5 h2.length && (decide (0 ≤ q11) && decide (q11 < (↑5 : Int)))) (cond (Nat.beq 5 h2.length && q11.toNat.blt h2.length) (k0 (h2[q11.toNat]?.getD 0) q12 q13) (z)) (z))

/-- spec.l01Draw, loop -/
def s_l01Draw_l0_s2_s {β : Type} (z : β) (p : Int) (n : Int) (h0_n : Nat) (h0 : Nat → Int) (h1_0_n : Nat) (h1_0_l : Nat) (h1_0_c : Nat) (h1_1 : Int) (h1_2 : Int) (h2_0 : Int) (h2_1 : Nat → Int) (h2_2 : Nat → Int) (h3_0 : Int) (i : Int) (h3_1 : Nat → Int) (h3_2 : Nat → Int) (kn : Int → (Nat → Int) → (Nat → Int) → β) (k0 : (Nat → Int) → (Nat → Int) → β) : β :=
  cond (decide (i < n)) (cond (decide (0 ≤ i) && decide (i < (↑8 : Int))) (cond (i.toNat.blt 8) (cond (fits IntKind.i64 (i + p)) (cond (!n == 0) (cond (decide (0 ≤ i) && decide (i < (↑8 : Int))) (cond (i.toNat.blt 8) (cond (fits IntKind.i64 (i + 1)) (kn (i + 1) (upd h3_1 i.toNat (wrapU IntKind.u8 i)) (upd h3_2 i.toNat (wrapU IntKind.u8 ((i + p).tmod n)))) (z)) (z)) (z)) (z)) (z)) (z)) (z)) (k0 h3_1 h3_2)
def s_l01Draw_l0_s2 {β : Type} (z : β) (p : Int) (n : Int) (h0_n : Nat) (h0 : Nat → Int) (h1_0_n : Nat) (h1_0_l : Nat) (h1_0_c : Nat) (h1_1 : Int) (h1_2 : Int) (h2_0 : Int) (h2_1 : Nat → Int) (h2_2 : Nat → Int) (h3_0 : Int) : Nat → Int → (Nat → Int) → (Nat → Int) → ((Nat → Int) → (Nat → Int) → β) → β
  | 0, _, _, _, _ => z
  | m + 1, i, h3_1, h3_2, k0 => s_l01Draw_l0_s2_s z p n h0_n h0 h1_0_n h1_0_l h1_0_c h1_1 h1_2 h2_0 h2_1 h2_2 h3_0 i h3_1 h3_2 (fun i h3_1 h3_2 => s_l01Draw_l0_s2 z p n h0_n h0 h1_0_n h1_0_l h1_0_c h1_1 h1_2 h2_0 h2_1 h2_2 h3_0 m i h3_1 h3_2 k0) k0

/-- spec.l01Draw -/
def s_l01Draw_s2 {β : Type} (z : β) (N : Nat) (h0_n : Nat) (h0 : Nat → Int) (h1_0_n : Nat) (h1_0_l : Nat) (h1_0_c : Nat) (h1_1 : Int) (h1_2 : Int) (k0 : Int → (Nat → Int) → (Nat → Int) → Int → Int → β) : β :=
  s_l01Next_s2 z N 6 h0_n h0 h1_0_n h1_0_l h1_0_c h1_1 h1_2 (fun q10 q11 q12 => cond (q10 == 0) (s_l01Next_s2 z N 3 h0_n h0 h1_0_n h1_0_l h1_0_c q11 q12 (fun q13 q14 q15 => cond (fits IntKind.i64 (1 + q13)) (cond (fits IntKind.i64 (1 + q13 + 1)) (cond (fits IntKind.i64 (5 - (1 + q13))) (s_l01Next_s2 z N (5 - (1 + q13)) h0_n h0 h1_0_n h1_0_l h1_0_c q14 q15 (fun q16 q17 q18 => cond (fits IntKind.i64 (1 + q13 + 1 + q16)) (s_l01Draw_l0_s2 z (1 + q13) (1 + q13 + 1 + q16) h0_n h0 h1_0_n h1_0_l h1_0_c q17 q18 0 (fun (x : Nat) => 0) (fun (x : Nat) => 0) (1 + q13 + 1 + q16) N 0 (fun (x : Nat) => 0) (fun (x : Nat) => 0) (fun q19 q20 => s_l01Next_s2 z N (1 + q13 + 1 + q16) h0_n h0 h1_0_n h1_0_l h1_0_c q17 q18 (fun q21 q22 q23 => s_l01Next_s2 z N (1 + q13 + 1 + q16) h0_n h0 h1_0_n h1_0_l h1_0_c q22 q23 (fun q24 q25 q26 => s_l01Rolled z N (1 + q13 + 1 + q16) q19 q20 q21 q24 (fun q27 q28 => k0 (1 + q13 + 1 + q16) q27 q28 q25 q26))))) (z))) (z)) (z)) (z))) (cond (q10 == 1) (s_l01Pick_s3 z N h0_n h0 h1_0_n h1_0_l h1_0_c q11 q12 ((((List.replicate 3 0).set 0 6).set 1 7).set 2 8) (fun q13 q14 q15 => s_l01DrawSize_s2 z N q13 h0_n h0 h1_0_n h1_0_l h1_0_c q14 q15 (fun q16 q17 q18 q19 => k0 q13 q16 q17 q18 q19))) (s_l01Pick_s4 z N h0_n h0 h1_0_n h1_0_l h1_0_c q11 q12 ((((((List.replicate 5 0).set 0 2).set 1 3).set 2 4).set 3 5).set 4 5) (fun q13 q14 q15 => s_l01DrawSize_s2 z N q13 h0_n h0 h1_0_n h1_0_l h1_0_c q14 q15 (fun q16 q17 q18 q19 => k0 q13 q16 q17 q18 q19)))))

/-- spec.l01Broken -/
def s_l01Broken_s2 {β : Type} (z : β) (N : Nat) (g_0 : Int) (g_1 : Nat → Int) (g_2 : Nat → Int) (h0_n : Nat) (h0 : Nat → Int) (h1_0_n : Nat) (h1_0_l : Nat) (h1_0_c : Nat) (h1_1 : Int) (h1_2 : Int) (k0 : Int → (Nat → Int) → (Nat → Int) → Int → Int → β) : β :=
  s_l01Next_s2 z N 40 h0_n h0 h1_0_n h1_0_l h1_0_c h1_1 h1_2 (fun q13 q14 q15 => cond (q13 == 0) (cond (fits IntKind.i64 (g_0 - 1)) (s_l01Pick_s4 z N h0_n h0 h1_0_n h1_0_l h1_0_c q14 q15 ((((((List.replicate 5 0).set 0 0).set 1 1).set 2 9).set 3 (-1)).set 4 (g_0 - 1)) (fun q16 q17 q18 => k0 q16 g_1 g_2 q17 q18)) (z)) (cond (q13 == 1) (s_l01Next_s2 z N 8 h0_n h0 h1_0_n h1_0_l h1_0_c q14 q15 (fun q16 q17 q18 => s_l01Next_s2 z N 9 h0_n h0 h1_0_n h1_0_l h1_0_c q17 q18 (fun q19 q20 q21 => cond (decide (0 ≤ q16) && decide (q16 < (↑8 : Int))) (cond (q16.toNat.blt 8) (k0 g_0 g_1 (upd g_2 q16.toNat (wrapU IntKind.u8 q19)) q20 q21) (z)) (z)))) (cond (q13 == 2) (k0 g_0 g_2 g_2 q14 q15) (k0 g_0 g_1 g_2 q14 q15))))

end Go.AM

set_option maxRecDepth 100000
namespace Go.AM
/-- spec.l07Kind -/
def s_l07Kind {β : Type} (z : β) (N : Nat) (g_0 : Int) (g_1 : Nat → Int) (g_2 : Nat → Int) (i : Int) (r_ : Int) (isX : Bool) (k0 : Int → β) : β :=
  cond (decide (0 ≤ i) && decide (i < (↑8 : Int))) (cond (i.toNat.blt 8) (s_l01Row z N g_2 g_0 r_ (fun q9 => cond (!isX) (cond (decide (0 ≤ i) && decide (i < (↑8 : Int))) (cond (i.toNat.blt 8) (s_l01Row z N g_1 g_0 r_ (fun q10 => cond (decide (r_ < g_1 i.toNat)) (cond (decide (i < q10)) (k0 0) (cond (decide (r_ < g_1 i.toNat)) (k0 1) (cond (decide (i < q10)) (k0 2) (k0 3)))) (cond (decide (r_ < g_1 i.toNat)) (k0 1) (cond (decide (i < q10)) (k0 2) (k0 3))))) (z)) (z)) (cond (decide (r_ < g_2 i.toNat)) (cond (decide (i < q9)) (k0 0) (cond (decide (r_ < g_2 i.toNat)) (k0 1) (cond (decide (i < q9)) (k0 2) (k0 3)))) (cond (decide (r_ < g_2 i.toNat)) (k0 1) (cond (decide (i < q9)) (k0 2) (k0 3)))))) (z)) (z)

/-- spec.l07Corners, loop -/
def s_l07Corners_l0_s {β : Type} (z : β) (N : Nat) (h0_0 : Int) (h0_1 : Nat → Int) (h0_2 : Nat → Int) (out_n : Nat) (out_l : Nat) (out_c : Nat) (i : Int) (h1 : List Int) (kn : Nat → Nat → Nat → Int → (List Int) → β) (k0 : Nat → Nat → Nat → (List Int) → β) : β :=
  cond (decide (i < h0_0)) (cond (decide (0 ≤ i) && decide (i < (↑8 : Int))) (cond (i.toNat.blt 8) (cond (decide (0 ≤ i) && decide (i < (↑8 : Int))) (cond (i.toNat.blt 8) (s_l07Kind z N h0_0 h0_1 h0_2 i (h0_1 i.toNat) true (fun q12 => s_l07Kind z N h0_0 h0_1 h0_2 i (h0_2 i.toNat) false (fun q13 => cond (out_n.beq h1.length && true) (cond ((out_l + 2).ble 1099511627776 && ((out_l + 2) * 32).ble 1099511627776) (cond ((out_l + 2).ble out_c) (cond (out_n.beq h1.length && (((0 + out_l * 4) % 4).beq 0 && (0 + out_l * 4 + 8).ble h1.length)) (cond (fits IntKind.i64 (i + 1)) (kn out_n (out_l + 2) out_c (i + 1) (List.take (0 + out_l * 4) h1 ++ (fromTo (List.take 4 (List.take 0 (List.replicate 8 0) ++ ([i, h0_1 i.toNat, q12, bif true then 1 else 0] ++ List.drop 4 (List.replicate 8 0))) ++ ([i, h0_2 i.toNat, q13, bif false then 1 else 0] ++ List.drop 8 (List.take 0 (List.replicate 8 0) ++ ([i, h0_1 i.toNat, q12, bif true then 1 else 0] ++ List.drop 4 (List.replicate 8 0))))) 0 8 ++ List.drop (0 + out_l * 4 + 8) h1))) (z)) (z)) (cond ((out_l * 4).beq h1.length && (h1.length % 4).beq 0) (cond (fits IntKind.i64 (i + 1)) (kn ((h1 ++ fromTo (List.take 4 (List.take 0 (List.replicate 8 0) ++ ([i, h0_1 i.toNat, q12, bif true then 1 else 0] ++ List.drop 4 (List.replicate 8 0))) ++ ([i, h0_2 i.toNat, q13, bif false then 1 else 0] ++ List.drop 8 (List.take 0 (List.replicate 8 0) ++ ([i, h0_1 i.toNat, q12, bif true then 1 else 0] ++ List.drop 4 (List.replicate 8 0))))) 0 8).length) (out_l + 2) (out_l + 2) (i + 1) (h1 ++ fromTo (List.take 4 (List.take 0 (List.replicate 8 0) ++ ([i, h0_1 i.toNat, q12, bif true then 1 else 0] ++ List.drop 4 (List.replicate 8 0))) ++ ([i, h0_2 i.toNat, q13, bif false then 1 else 0] ++ List.drop 8 (List.take 0 (List.replicate 8 0) ++ ([i, h0_1 i.toNat, q12, bif true then 1 else 0] ++ List.drop 4 (List.replicate 8 0))))) 0 8)) (z)) (z))) (z)) (z)))) (z)) (z)) (z)) (z)) (k0 out_n out_l out_c h1)
def s_l07Corners_l0 {β : Type} (z : β) (N : Nat) (h0_0 : Int) (h0_1 : Nat → Int) (h0_2 : Nat → Int) : Nat → Nat → Nat → Nat → Int → (List Int) → (Nat → Nat → Nat → (List Int) → β) → β
  | 0, _, _, _, _, _, _ => z
  | m + 1, out_n, out_l, out_c, i, h1, k0 => s_l07Corners_l0_s z N h0_0 h0_1 h0_2 out_n out_l out_c i h1 (fun out_n out_l out_c i h1 => s_l07Corners_l0 z N h0_0 h0_1 h0_2 m out_n out_l out_c i h1 k0) k0

/-- spec.l07Corners -/
def s_l07Corners {β : Type} (z : β) (N : Nat) (g_0 : Int) (g_1 : Nat → Int) (g_2 : Nat → Int) (k0 : Nat → Nat → Nat → (List Int) → β) : β :=
  s_l07Corners_l0 z N g_0 g_1 g_2 N 0 0 0 0 (List.replicate 0 0) (fun q6 q7 q8 q9 => k0 q6 q7 q8 q9)

/-- impl.kind -/
def i_kind {β : Type} (z : β) (N : Nat) (column : Int) (row : Int) (otherRow : Int) (otherColumn : Int) (k0 : Int → β) : β :=
  cond (decide (otherRow < row)) (cond (decide (otherColumn < column)) (k0 3) (k0 2)) (cond (decide (otherColumn < column)) (k0 1) (k0 0))

/-- (impl.Grid).corners, loop -/
def i_Grid_corners_l0_s {β : Type} (z : β) (N : Nat) (t19 : Int) (h0_0 : Int) (h0_1 : Nat → Int) (h0_2 : Nat → Int) (h2 : Nat → Int) (h3 : Nat → Int) (out_n : Nat) (out_l : Nat) (out_c : Nat) (t20 : Int) (h1 : List Int) (kn : Nat → Nat → Nat → Int → (List Int) → β) (k0 : Nat → Nat → Nat → (List Int) → β) : β :=
  cond (decide (t20 < t19)) (cond (decide (0 ≤ t20) && decide (t20 < (↑8 : Int))) (cond (t20.toNat.blt 8) (cond (decide (0 ≤ t20) && decide (t20 < (↑8 : Int))) (cond (t20.toNat.blt 8) (cond (decide (0 ≤ h0_1 t20.toNat) && decide (h0_1 t20.toNat < (↑8 : Int))) (cond ((h0_1 t20.toNat).toNat.blt 8) (i_kind z N t20 (h0_1 t20.toNat) (h0_2 t20.toNat) (h3 (h0_1 t20.toNat).toNat) (fun q15 => cond (out_n.beq h1.length && true) (cond ((out_l + 1).ble 1099511627776 && ((out_l + 1) * 32).ble 1099511627776) (cond ((out_l + 1).ble out_c) (cond (out_n.beq h1.length && (((0 + out_l * 4) % 4).beq 0 && (0 + out_l * 4 + 4).ble h1.length)) (cond (decide (0 ≤ h0_2 t20.toNat) && decide (h0_2 t20.toNat < (↑8 : Int))) (cond ((h0_2 t20.toNat).toNat.blt 8) (i_kind z N t20 (h0_2 t20.toNat) (h0_1 t20.toNat) (h2 (h0_2 t20.toNat).toNat) (fun q16 => cond (out_n.beq (List.take (0 + out_l * 4) h1 ++ (fromTo [t20, h0_1 t20.toNat, q15, bif true then 1 else 0] 0 4 ++ List.drop (0 + out_l * 4 + 4) h1)).length && true) (cond ((out_l + 1 + 1).ble 1099511627776 && ((out_l + 1 + 1) * 32).ble 1099511627776) (cond ((out_l + 1 + 1).ble out_c) (cond (out_n.beq (List.take (0 + out_l * 4) h1 ++ (fromTo [t20, h0_1 t20.toNat, q15, bif true then 1 else 0] 0 4 ++ List.drop (0 + out_l * 4 + 4) h1)).length && (((0 + (out_l + 1) * 4) % 4).beq 0 && (0 + (out_l + 1) * 4 + 4).ble (List.take (0 + out_l * 4) h1 ++ (fromTo [t20, h0_1 t20.toNat, q15, bif true then 1 else 0] 0 4 ++ List.drop (0 + out_l * 4 + 4) h1)).length)) (cond (fits IntKind.i64 (t20 + 1)) (kn out_n (out_l + 1 + 1) out_c (t20 + 1) (List.take (0 + (out_l + 1) * 4) (List.take (0 + out_l * 4) h1 ++ (fromTo [t20, h0_1 t20.toNat, q15, bif true then 1 else 0] 0 4 ++ List.drop (0 + out_l * 4 + 4) h1)) ++ (fromTo [t20, h0_2 t20.toNat, q16, bif false then 1 else 0] 0 4 ++ List.drop (0 + (out_l + 1) * 4 + 4) (List.take (0 + out_l * 4) h1 ++ (fromTo [t20, h0_1 t20.toNat, q15, bif true then 1 else 0] 0 4 ++ List.drop (0 + out_l * 4 + 4) h1))))) (z)) (z)) (cond (((out_l + 1) * 4).beq (List.take (0 + out_l * 4) h1 ++ (fromTo [t20, h0_1 t20.toNat, q15, bif true then 1 else 0] 0 4 ++ List.drop (0 + out_l * 4 + 4) h1)).length && ((List.take (0 + out_l * 4) h1 ++ (fromTo [t20, h0_1 t20.toNat, q15, bif true then 1 else 0] 0 4 ++ List.drop (0 + out_l * 4 + 4) h1)).length % 4).beq 0) (cond (fits IntKind.i64 (t20 + 1)) (kn ((List.take (0 + out_l * 4) h1 ++ (fromTo [t20, h0_1 t20.toNat, q15, bif true then 1 else 0] 0 4 ++ List.drop (0 + out_l * 4 + 4) h1) ++ fromTo [t20, h0_2 t20.toNat, q16, bif false then 1 else 0] 0 4).length) (out_l + 1 + 1) (out_l + 1 + 1) (t20 + 1) (List.take (0 + out_l * 4) h1 ++ (fromTo [t20, h0_1 t20.toNat, q15, bif true then 1 else 0] 0 4 ++ List.drop (0 + out_l * 4 + 4) h1) ++ fromTo [t20, h0_2 t20.toNat, q16, bif false then 1 else 0] 0 4)) (z)) (z))) (z)) (z))) (z)) (z)) (z)) (cond ((out_l * 4).beq h1.length && (h1.length % 4).beq 0) (cond (decide (0 ≤ h0_2 t20.toNat) && decide (h0_2 t20.toNat < (↑8 : Int))) (cond ((h0_2 t20.toNat).toNat.blt 8) (i_kind z N t20 (h0_2 t20.toNat) (h0_1 t20.toNat) (h2 (h0_2 t20.toNat).toNat) (fun q16 => cond ((h1 ++ fromTo [t20, h0_1 t20.toNat, q15, bif true then 1 else 0] 0 4).length.beq (h1 ++ fromTo [t20, h0_1 t20.toNat, q15, bif true then 1 else 0] 0 4).length && true) (cond ((out_l + 1 + 1).ble 1099511627776 && ((out_l + 1 + 1) * 32).ble 1099511627776) (cond ((out_l + 1 + 1).ble (out_l + 1)) (cond ((h1 ++ fromTo [t20, h0_1 t20.toNat, q15, bif true then 1 else 0] 0 4).length.beq (h1 ++ fromTo [t20, h0_1 t20.toNat, q15, bif true then 1 else 0] 0 4).length && (((0 + (out_l + 1) * 4) % 4).beq 0 && (0 + (out_l + 1) * 4 + 4).ble (h1 ++ fromTo [t20, h0_1 t20.toNat, q15, bif true then 1 else 0] 0 4).length)) (cond (fits IntKind.i64 (t20 + 1)) (kn ((h1 ++ fromTo [t20, h0_1 t20.toNat, q15, bif true then 1 else 0] 0 4).length) (out_l + 1 + 1) (out_l + 1) (t20 + 1) (List.take (0 + (out_l + 1) * 4) (h1 ++ fromTo [t20, h0_1 t20.toNat, q15, bif true then 1 else 0] 0 4) ++ (fromTo [t20, h0_2 t20.toNat, q16, bif false then 1 else 0] 0 4 ++ List.drop (0 + (out_l + 1) * 4 + 4) (h1 ++ fromTo [t20, h0_1 t20.toNat, q15, bif true then 1 else 0] 0 4)))) (z)) (z)) (cond (((out_l + 1) * 4).beq (h1 ++ fromTo [t20, h0_1 t20.toNat, q15, bif true then 1 else 0] 0 4).length && ((h1 ++ fromTo [t20, h0_1 t20.toNat, q15, bif true then 1 else 0] 0 4).length % 4).beq 0) (cond (fits IntKind.i64 (t20 + 1)) (kn ((h1 ++ fromTo [t20, h0_1 t20.toNat, q15, bif true then 1 else 0] 0 4 ++ fromTo [t20, h0_2 t20.toNat, q16, bif false then 1 else 0] 0 4).length) (out_l + 1 + 1) (out_l + 1 + 1) (t20 + 1) (h1 ++ fromTo [t20, h0_1 t20.toNat, q15, bif true then 1 else 0] 0 4 ++ fromTo [t20, h0_2 t20.toNat, q16, bif false then 1 else 0] 0 4)) (z)) (z))) (z)) (z))) (z)) (z)) (z))) (z)) (z))) (z)) (z)) (z)) (z)) (z)) (z)) (k0 out_n out_l out_c h1)
def i_Grid_corners_l0 {β : Type} (z : β) (N : Nat) (t19 : Int) (h0_0 : Int) (h0_1 : Nat → Int) (h0_2 : Nat → Int) (h2 : Nat → Int) (h3 : Nat → Int) : Nat → Nat → Nat → Nat → Int → (List Int) → (Nat → Nat → Nat → (List Int) → β) → β
  | 0, _, _, _, _, _, _ => z
  | m + 1, out_n, out_l, out_c, t20, h1, k0 => i_Grid_corners_l0_s z N t19 h0_0 h0_1 h0_2 h2 h3 out_n out_l out_c t20 h1 (fun out_n out_l out_c t20 h1 => i_Grid_corners_l0 z N t19 h0_0 h0_1 h0_2 h2 h3 m out_n out_l out_c t20 h1 k0) k0

/-- (impl.Grid).corners -/
def i_Grid_corners {β : Type} (z : β) (N : Nat) (g_0 : Int) (g_1 : Nat → Int) (g_2 : Nat → Int) (k0 : Nat → Nat → Nat → (List Int) → β) : β :=
  i_Grid_places z N g_0 g_1 g_2 g_1 (fun q6 => i_Grid_places z N g_0 g_1 g_2 g_2 (fun q7 => i_Grid_n z N g_0 g_1 g_2 (i_Grid_corners_l0 z N g_0 g_0 g_1 g_2 q6 q7 N 0 0 0 0 (List.replicate 0 0) (fun q8 q9 q10 q11 => k0 q8 q9 q10 q11))))

end Go.AM

set_option maxRecDepth 100000
namespace Go.AM
/-- spec.l01Components, loop -/
def s_l01Components_l0_s {β : Type} (z : β) (h0_0 : Int) (h0_1 : Nat → Int) (h0_2 : Nat → Int) (h1 : Nat → Int) (i : Int) (h2 : Nat → Int) (kn : Int → (Nat → Int) → β) (k0 : (Nat → Int) → β) : β :=
  cond (decide (i < 8)) (cond (decide (0 ≤ i) && decide (i < (↑8 : Int))) (cond (i.toNat.blt 8) (cond (fits IntKind.i64 (i + 1)) (kn (i + 1) (upd h2 i.toNat (-1))) (z)) (z)) (z)) (k0 h2)
def s_l01Components_l0 {β : Type} (z : β) (h0_0 : Int) (h0_1 : Nat → Int) (h0_2 : Nat → Int) (h1 : Nat → Int) : Nat → Int → (Nat → Int) → ((Nat → Int) → β) → β
  | 0, _, _, _ => z
  | m + 1, i, h2, k0 => s_l01Components_l0_s z h0_0 h0_1 h0_2 h1 i h2 (fun i h2 => s_l01Components_l0 z h0_0 h0_1 h0_2 h1 m i h2 k0) k0

/-- spec.l01Follow -/
def s_l01Follow {β : Type} (z : β) (N : Nat) (g_0 : Int) (g_1 : Nat → Int) (g_2 : Nat → Int) (i : Int) (k0 : Int → β) : β :=
  cond (decide (0 ≤ i) && decide (i < (↑8 : Int))) (cond (i.toNat.blt 8) (s_l01Row z N g_1 g_0 (g_2 i.toNat) (fun q7 => k0 q7)) (z)) (z)

/-- spec.l01Components, loop -/
def s_l01Components_l2_s {β : Type} (z : β) (N : Nat) (count : Int) (i : Int) (h0_0 : Int) (h0_1 : Nat → Int) (h0_2 : Nat → Int) (h1 : Nat → Int) (k : Int) (h2 : Nat → Int) (kn : Int → (Nat → Int) → β) (k0 : (Nat → Int) → β) : β :=
  cond (decide (0 ≤ k) && decide (k < (↑8 : Int))) (cond (k.toNat.blt 8) (cond (decide (h2 k.toNat < 0)) (cond (decide (0 ≤ k) && decide (k < (↑8 : Int))) (cond (k.toNat.blt 8) (s_l01Follow z N h0_0 h0_1 h0_2 k (fun q12 => kn q12 (upd h2 k.toNat count))) (z)) (z)) (k0 h2)) (z)) (z)
def s_l01Components_l2 {β : Type} (z : β) (N : Nat) (count : Int) (i : Int) (h0_0 : Int) (h0_1 : Nat → Int) (h0_2 : Nat → Int) (h1 : Nat → Int) : Nat → Int → (Nat → Int) → ((Nat → Int) → β) → β
  | 0, _, _, _ => z
  | m + 1, k, h2, k0 => s_l01Components_l2_s z N count i h0_0 h0_1 h0_2 h1 k h2 (fun k h2 => s_l01Components_l2 z N count i h0_0 h0_1 h0_2 h1 m k h2 k0) k0

/-- spec.l01Components, loop -/
def s_l01Components_l1_s {β : Type} (z : β) (N : Nat) (h0_0 : Int) (h0_1 : Nat → Int) (h0_2 : Nat → Int) (h1 : Nat → Int) (count : Int) (i : Int) (h2 : Nat → Int) (kn : Int → Int → (Nat → Int) → β) (k0 : Int → (Nat → Int) → β) : β :=
  cond (decide (i < h0_0)) (cond (decide (0 ≤ i) && decide (i < (↑8 : Int))) (cond (i.toNat.blt 8) (cond (decide (0 ≤ h2 i.toNat)) (cond (fits IntKind.i64 (i + 1)) (kn count (i + 1) h2) (z)) (s_l01Components_l2 z N count i h0_0 h0_1 h0_2 h1 N i h2 (fun q11 => cond (fits IntKind.i64 (count + 1)) (cond (fits IntKind.i64 (i + 1)) (kn (count + 1) (i + 1) q11) (z)) (z)))) (z)) (z)) (k0 count h2)
def s_l01Components_l1 {β : Type} (z : β) (N : Nat) (h0_0 : Int) (h0_1 : Nat → Int) (h0_2 : Nat → Int) (h1 : Nat → Int) : Nat → Int → Int → (Nat → Int) → (Int → (Nat → Int) → β) → β
  | 0, _, _, _, _ => z
  | m + 1, count, i, h2, k0 => s_l01Components_l1_s z N h0_0 h0_1 h0_2 h1 count i h2 (fun count i h2 => s_l01Components_l1 z N h0_0 h0_1 h0_2 h1 m count i h2 k0) k0

/-- spec.l01Components -/
def s_l01Components {β : Type} (z : β) (N : Nat) (g_0 : Int) (g_1 : Nat → Int) (g_2 : Nat → Int) (k0 : (Nat → Int) → Int → β) : β :=
  s_l01Components_l0 z g_0 g_1 g_2 (fun (x : Nat) => 0) N 0 (fun (x : Nat) => 0) (fun q6 => s_l01Components_l1 z N g_0 g_1 g_2 (fun (x : Nat) => 0) N 0 0 q6 (fun q7 q8 => k0 q8 q7))

/-- spec.l07Cusps, loop -/
def s_l07Cusps_l0_s {β : Type} (z : β) (t1 : Int) (t8_n : Nat) (t8_l : Nat) (t8_c : Nat) (h0_0 : Int) (h0_1 : Nat → Int) (h0_2 : Nat → Int) (h1 : Nat → Int) (h2 : List Int) (t9 : Int) (t10 : Int) (t11 : Int) (kn : Int → Int → Int → β) (k0 : Int → Int → β) : β :=
  cond (t8_l.ble 9223372036854775807) (cond (decide (t11 < (↑t8_l : Int))) (cond (decide (0 ≤ t1)) (cond (t8_n.beq h2.length && (decide (0 ≤ t11) && decide (t11 < (↑t8_l : Int)))) (cond (t8_n.beq h2.length) (cond (t8_n.beq h2.length && ((t11.toNat * 4 % 4).beq 0 && (t11.toNat * 4 + 4).ble h2.length)) (cond (decide (0 ≤ h2[addO (t11.toNat * 4) 0]?.getD 0) && decide (h2[addO (t11.toNat * 4) 0]?.getD 0 < (↑8 : Int))) (cond ((h2[addO (t11.toNat * 4) 0]?.getD 0).toNat.blt 8) (cond (h1 (h2[addO (t11.toNat * 4) 0]?.getD 0).toNat != t1) (cond (fits IntKind.i64 (t11 + 1)) (kn t9 t10 (t11 + 1)) (z)) (cond (t8_n.beq h2.length && (decide (0 ≤ t11) && decide (t11 < (↑t8_l : Int)))) (cond (t8_n.beq h2.length) (cond (t8_n.beq h2.length && ((t11.toNat * 4 % 4).beq 0 && (t11.toNat * 4 + 4).ble h2.length)) (cond (h2[addO (t11.toNat * 4) 2]?.getD 0 == 1) (cond (fits IntKind.i64 (t11 + 1)) (kn t9 t10 (t11 + 1)) (z)) (cond (t8_n.beq h2.length && (decide (0 ≤ t11) && decide (t11 < (↑t8_l : Int)))) (cond (t8_n.beq h2.length) (cond (t8_n.beq h2.length && ((t11.toNat * 4 % 4).beq 0 && (t11.toNat * 4 + 4).ble h2.length)) (cond (h2[addO (t11.toNat * 4) 2]?.getD 0 == 2) (cond (fits IntKind.i64 (t11 + 1)) (kn t9 t10 (t11 + 1)) (z)) (cond (t8_n.beq h2.length && (decide (0 ≤ t11) && decide (t11 < (↑t8_l : Int)))) (cond (t8_n.beq h2.length) (cond (t8_n.beq h2.length && ((t11.toNat * 4 % 4).beq 0 && (t11.toNat * 4 + 4).ble h2.length)) (cond (t8_n.beq h2.length && (decide (0 ≤ t11) && decide (t11 < (↑t8_l : Int)))) (cond (t8_n.beq h2.length) (cond (t8_n.beq h2.length && ((t11.toNat * 4 % 4).beq 0 && (t11.toNat * 4 + 4).ble h2.length)) (cond ((h2[addO (t11.toNat * 4) 3]?.getD 0 != 0) == (h2[addO (t11.toNat * 4) 2]?.getD 0 == 3)) (cond (fits IntKind.i64 (t9 + 1)) (cond (fits IntKind.i64 (t11 + 1)) (kn (t9 + 1) t10 (t11 + 1)) (z)) (z)) (cond (fits IntKind.i64 (t10 + 1)) (cond (fits IntKind.i64 (t11 + 1)) (kn t9 (t10 + 1) (t11 + 1)) (z)) (z))) (z)) (z)) (z)) (z)) (z)) (z))) (z)) (z)) (z))) (z)) (z)) (z))) (z)) (z)) (z)) (z)) (z)) (cond (t8_n.beq h2.length && (decide (0 ≤ t11) && decide (t11 < (↑t8_l : Int)))) (cond (t8_n.beq h2.length) (cond (t8_n.beq h2.length && ((t11.toNat * 4 % 4).beq 0 && (t11.toNat * 4 + 4).ble h2.length)) (cond (h2[addO (t11.toNat * 4) 2]?.getD 0 == 1) (cond (fits IntKind.i64 (t11 + 1)) (kn t9 t10 (t11 + 1)) (z)) (cond (t8_n.beq h2.length && (decide (0 ≤ t11) && decide (t11 < (↑t8_l : Int)))) (cond (t8_n.beq h2.length) (cond (t8_n.beq h2.length && ((t11.toNat * 4 % 4).beq 0 && (t11.toNat * 4 + 4).ble h2.length)) (cond (h2[addO (t11.toNat * 4) 2]?.getD 0 == 2) (cond (fits IntKind.i64 (t11 + 1)) (kn t9 t10 (t11 + 1)) (z)) (cond (t8_n.beq h2.length && (decide (0 ≤ t11) && decide (t11 < (↑t8_l : Int)))) (cond (t8_n.beq h2.length) (cond (t8_n.beq h2.length && ((t11.toNat * 4 % 4).beq 0 && (t11.toNat * 4 + 4).ble h2.length)) (cond (t8_n.beq h2.length && (decide (0 ≤ t11) && decide (t11 < (↑t8_l : Int)))) (cond (t8_n.beq h2.length) (cond (t8_n.beq h2.length && ((t11.toNat * 4 % 4).beq 0 && (t11.toNat * 4 + 4).ble h2.length)) (cond ((h2[addO (t11.toNat * 4) 3]?.getD 0 != 0) == (h2[addO (t11.toNat * 4) 2]?.getD 0 == 3)) (cond (fits IntKind.i64 (t9 + 1)) (cond (fits IntKind.i64 (t11 + 1)) (kn (t9 + 1) t10 (t11 + 1)) (z)) (z)) (cond (fits IntKind.i64 (t10 + 1)) (cond (fits IntKind.i64 (t11 + 1)) (kn t9 (t10 + 1) (t11 + 1)) (z)) (z))) (z)) (z)) (z)) (z)) (z)) (z))) (z)) (z)) (z))) (z)) (z)) (z))) (k0 t9 t10)) (z)
def s_l07Cusps_l0 {β : Type} (z : β) (t1 : Int) (t8_n : Nat) (t8_l : Nat) (t8_c : Nat) (h0_0 : Int) (h0_1 : Nat → Int) (h0_2 : Nat → Int) (h1 : Nat → Int) (h2 : List Int) : Nat → Int → Int → Int → (Int → Int → β) → β
  | 0, _, _, _, _ => z
  | m + 1, t9, t10, t11, k0 => s_l07Cusps_l0_s z t1 t8_n t8_l t8_c h0_0 h0_1 h0_2 h1 h2 t9 t10 t11 (fun t9 t10 t11 => s_l07Cusps_l0 z t1 t8_n t8_l t8_c h0_0 h0_1 h0_2 h1 h2 m t9 t10 t11 k0) k0

/-- spec.l07Cusps -/
def s_l07Cusps {β : Type} (z : β) (N : Nat) (g_0 : Int) (g_1 : Nat → Int) (g_2 : Nat → Int) (a1 : Int) (k0 : Int → Int → β) : β :=
  s_l01Components z N g_0 g_1 g_2 (fun q7 q8 => s_l07Corners z N g_0 g_1 g_2 (fun q9 q10 q11 q12 => s_l07Cusps_l0 z a1 q9 q10 q11 g_0 g_1 g_2 q7 q12 N 0 0 0 (fun q13 q14 => k0 q13 q14)))

/-- spec.CountCusps -/
def s_CountCusps {β : Type} (z : β) (N : Nat) (g_0 : Int) (g_1 : Nat → Int) (g_2 : Nat → Int) (k0 : Int → Int → β) : β :=
  s_l01Is z N g_0 g_1 g_2 (fun q6 => cond (!q6) (k0 0 1) (s_l07Cusps z N g_0 g_1 g_2 (-1) (fun q7 q8 => cond (fits IntKind.i64 (q7 + q8)) (k0 (q7 + q8) 0) (z))))

/-- (impl.Corner).isCusp -/
def i_Corner_isCusp {β : Type} (z : β) (N : Nat) (c_0 : Int) (c_1 : Int) (c_2 : Int) (c_3 : Bool) (k0 : Bool → β) : β :=
  cond (c_2 == 0) (k0 true) (k0 (c_2 == 3))

/-- (impl.Corner).letter -/
def i_Corner_letter {β : Type} (z : β) (N : Nat) (c_0 : Int) (c_1 : Int) (c_2 : Int) (c_3 : Bool) (k0 : (List UInt8) → β) : β :=
  i_Corner_isCusp z N c_0 c_1 c_2 c_3 (fun q7 => cond (!q7) (k0 ([])) (cond (c_3 == (c_2 == 0)) (k0 ([117])) (k0 ([100]))))

/-- (*impl.front).add -/
def i_front_add {β : Type} (z : β) (N : Nat) (c_0 : Int) (c_1 : Int) (c_2 : Int) (c_3 : Bool) (h0 : Nat → Int) (k0 : (Nat → Int) → β) : β :=
  i_Corner_isCusp z N c_0 c_1 c_2 c_3 (fun q8 => cond (q8) (cond (fits IntKind.i64 (h0 0 + 1)) (i_Corner_letter z N c_0 c_1 c_2 c_3 (fun q9 => cond (q9 == [117]) (cond (fits IntKind.i64 (upd h0 0 (h0 0 + 1) 1 + 1)) (k0 (upd (upd h0 0 (h0 0 + 1)) 1 (upd h0 0 (h0 0 + 1) 1 + 1))) (z)) (cond (q9 == [100]) (cond (fits IntKind.i64 (upd h0 0 (h0 0 + 1) 2 + 1)) (k0 (upd (upd h0 0 (h0 0 + 1)) 2 (upd h0 0 (h0 0 + 1) 2 + 1))) (z)) (k0 (upd h0 0 (h0 0 + 1)))))) (z)) (i_Corner_letter z N c_0 c_1 c_2 c_3 (fun q9 => cond (q9 == [117]) (cond (fits IntKind.i64 (h0 1 + 1)) (k0 (upd h0 1 (h0 1 + 1))) (z)) (cond (q9 == [100]) (cond (fits IntKind.i64 (h0 2 + 1)) (k0 (upd h0 2 (h0 2 + 1))) (z)) (k0 h0)))))

/-- (impl.Grid).front, loop -/
def i_Grid_front_l0_s {β : Type} (z : β) (N : Nat) (t8_n : Nat) (t8_l : Nat) (t8_c : Nat) (t9 : Int) (h0_0 : Int) (h0_1 : Nat → Int) (h0_2 : Nat → Int) (h1 : Nat → Int) (h3 : List Int) (t10 : Int) (h2 : Nat → Int) (kn : Int → (Nat → Int) → β) (k0 : (Nat → Int) → β) : β :=
  cond (decide (t10 < t9)) (cond (t8_n.beq h3.length && (decide (0 ≤ t10) && decide (t10 < (↑t8_l : Int)))) (cond (t8_n.beq h3.length && ((t10.toNat * 4 % 4).beq 0 && (t10.toNat * 4 + 4).ble h3.length)) (i_front_add z N (h3[addO (t10.toNat * 4) 0]?.getD 0) (h3[addO (t10.toNat * 4) 1]?.getD 0) (h3[addO (t10.toNat * 4) 2]?.getD 0) (h3[addO (t10.toNat * 4) 3]?.getD 0 != 0) h2 (fun q15 => cond (fits IntKind.i64 (t10 + 1)) (kn (t10 + 1) q15) (z))) (z)) (z)) (k0 h2)
def i_Grid_front_l0 {β : Type} (z : β) (N : Nat) (t8_n : Nat) (t8_l : Nat) (t8_c : Nat) (t9 : Int) (h0_0 : Int) (h0_1 : Nat → Int) (h0_2 : Nat → Int) (h1 : Nat → Int) (h3 : List Int) : Nat → Int → (Nat → Int) → ((Nat → Int) → β) → β
  | 0, _, _, _ => z
  | m + 1, t10, h2, k0 => i_Grid_front_l0_s z N t8_n t8_l t8_c t9 h0_0 h0_1 h0_2 h1 h3 t10 h2 (fun t10 h2 => i_Grid_front_l0 z N t8_n t8_l t8_c t9 h0_0 h0_1 h0_2 h1 h3 m t10 h2 k0) k0

/-- (impl.Grid).front -/
def i_Grid_front {β : Type} (z : β) (N : Nat) (g_0 : Int) (g_1 : Nat → Int) (g_2 : Nat → Int) (k0 : (Nat → Int) → β) : β :=
  i_Grid_corners z N g_0 g_1 g_2 (fun q6 q7 q8 q9 => cond (q7.ble 9223372036854775807) (i_Grid_front_l0 z N q6 q7 q8 (↑q7 : Int) g_0 g_1 g_2 (fun (x : Nat) => 0) q9 N 0 (fun (x : Nat) => 0) (fun q10 => k0 q10)) (z))

/-- impl.CountCusps$1 -/
def i_CountCusps_1 {β : Type} (z : β) (N : Nat) (g_0 : Int) (g_1 : Nat → Int) (g_2 : Nat → Int) (k0 : Int → β) : β :=
  i_Grid_front z N g_0 g_1 g_2 (fun q6 => k0 (q6 0))

/-- impl.whole[int64] -/
def i_whole_int64_v1 {β : Type} (z : β) (N : Nat) (g_0 : Int) (g_1 : Nat → Int) (g_2 : Nat → Int) (k0 : Int → Int → β) : β :=
  i_IsGrid z N g_0 g_1 g_2 (fun q6 => cond (!q6) (k0 0 1) (i_CountCusps_1 z N g_0 g_1 g_2 (fun q7 => k0 q7 0)))

/-- impl.CountCusps -/
def i_CountCusps {β : Type} (z : β) (N : Nat) (g_0 : Int) (g_1 : Nat → Int) (g_2 : Nat → Int) (k0 : Int → Int → β) : β :=
  i_whole_int64_v1 z N g_0 g_1 g_2 (fun q6 q7 => k0 q6 q7)

end Go.AM

set_option maxRecDepth 100000
namespace Go.AM
/-- spec.l03Cross -/
def s_l03Cross {β : Type} (z : β) (N : Nat) (g_0 : Int) (g_1 : Nat → Int) (g_2 : Nat → Int) (i : Int) (r_ : Int) (k0 : Int → β) : β :=
  cond (decide (0 ≤ i) && decide (i < (↑8 : Int))) (cond (i.toNat.blt 8) (cond (decide (0 ≤ i) && decide (i < (↑8 : Int))) (cond (i.toNat.blt 8) (s_l01Row z N g_1 g_0 r_ (fun q8 => s_l01Row z N g_2 g_0 r_ (fun q9 => cond (fits IntKind.i64 ((bif decide (g_2 i.toNat < g_1 i.toNat) then g_2 i.toNat else g_1 i.toNat) + 1)) (cond (fits IntKind.i64 ((bif decide (g_1 i.toNat < g_2 i.toNat) then g_2 i.toNat else g_1 i.toNat) - 1)) (s_l01In z N r_ ((bif decide (g_2 i.toNat < g_1 i.toNat) then g_2 i.toNat else g_1 i.toNat) + 1) ((bif decide (g_1 i.toNat < g_2 i.toNat) then g_2 i.toNat else g_1 i.toNat) - 1) (fun q10 => cond (!q10) (k0 0) (cond (fits IntKind.i64 ((bif decide (q9 < q8) then q9 else q8) + 1)) (cond (fits IntKind.i64 ((bif decide (q8 < q9) then q9 else q8) - 1)) (s_l01In z N i ((bif decide (q9 < q8) then q9 else q8) + 1) ((bif decide (q8 < q9) then q9 else q8) - 1) (fun q11 => cond (!q11) (k0 0) (cond (decide (g_1 i.toNat < g_2 i.toNat) == decide (q8 < q9)) (k0 1) (k0 (-1))))) (z)) (z)))) (z)) (z)))) (z)) (z)) (z)) (z)

/-- spec.l03Crossings, loop -/
def s_l03Crossings_l1_s {β : Type} (z : β) (N : Nat) (i : Int) (h0_0 : Int) (h0_1 : Nat → Int) (h0_2 : Nat → Int) (out_n : Nat) (out_l : Nat) (out_c : Nat) (r_ : Int) (h1 : List Int) (kn : Nat → Nat → Nat → Int → (List Int) → β) (k0 : Nat → Nat → Nat → (List Int) → β) : β :=
  cond (decide (r_ < h0_0)) (s_l03Cross z N h0_0 h0_1 h0_2 i r_ (fun q13 => cond (q13 != 0) (cond (out_n.beq h1.length && true) (cond ((out_l + 1).ble 1099511627776 && ((out_l + 1) * 24).ble 1099511627776) (cond ((out_l + 1).ble out_c) (cond (out_n.beq h1.length && (0 + out_l * 3 + 3).ble h1.length) (cond (fits IntKind.i64 (r_ + 1)) (kn out_n (out_l + 1) out_c (r_ + 1) (List.take (0 + out_l * 3) h1 ++ (List.map (upd (upd (upd (fun (x : Nat) => 0) 0 i) 1 r_) 2 q13) (List.range 3) ++ List.drop (0 + out_l * 3 + 3) h1))) (z)) (z)) (cond ((out_l * 3).beq h1.length) (cond (fits IntKind.i64 (r_ + 1)) (kn ((h1 ++ List.map (upd (upd (upd (fun (x : Nat) => 0) 0 i) 1 r_) 2 q13) (List.range 3)).length) (out_l + 1) (out_l + 1) (r_ + 1) (h1 ++ List.map (upd (upd (upd (fun (x : Nat) => 0) 0 i) 1 r_) 2 q13) (List.range 3))) (z)) (z))) (z)) (z)) (cond (fits IntKind.i64 (r_ + 1)) (kn out_n out_l out_c (r_ + 1) h1) (z)))) (k0 out_n out_l out_c h1)
def s_l03Crossings_l1 {β : Type} (z : β) (N : Nat) (i : Int) (h0_0 : Int) (h0_1 : Nat → Int) (h0_2 : Nat → Int) : Nat → Nat → Nat → Nat → Int → (List Int) → (Nat → Nat → Nat → (List Int) → β) → β
  | 0, _, _, _, _, _, _ => z
  | m + 1, out_n, out_l, out_c, r_, h1, k0 => s_l03Crossings_l1_s z N i h0_0 h0_1 h0_2 out_n out_l out_c r_ h1 (fun out_n out_l out_c r_ h1 => s_l03Crossings_l1 z N i h0_0 h0_1 h0_2 m out_n out_l out_c r_ h1 k0) k0

/-- spec.l03Crossings, loop -/
def s_l03Crossings_l0_s {β : Type} (z : β) (N : Nat) (h0_0 : Int) (h0_1 : Nat → Int) (h0_2 : Nat → Int) (out_n : Nat) (out_l : Nat) (out_c : Nat) (i : Int) (h1 : List Int) (kn : Nat → Nat → Nat → Int → (List Int) → β) (k0 : Nat → Nat → Nat → (List Int) → β) : β :=
  cond (decide (i < h0_0)) (s_l03Crossings_l1 z N i h0_0 h0_1 h0_2 N out_n out_l out_c 0 h1 (fun q12 q13 q14 q15 => cond (fits IntKind.i64 (i + 1)) (kn q12 q13 q14 (i + 1) q15) (z))) (k0 out_n out_l out_c h1)
def s_l03Crossings_l0 {β : Type} (z : β) (N : Nat) (h0_0 : Int) (h0_1 : Nat → Int) (h0_2 : Nat → Int) : Nat → Nat → Nat → Nat → Int → (List Int) → (Nat → Nat → Nat → (List Int) → β) → β
  | 0, _, _, _, _, _, _ => z
  | m + 1, out_n, out_l, out_c, i, h1, k0 => s_l03Crossings_l0_s z N h0_0 h0_1 h0_2 out_n out_l out_c i h1 (fun out_n out_l out_c i h1 => s_l03Crossings_l0 z N h0_0 h0_1 h0_2 m out_n out_l out_c i h1 k0) k0

/-- spec.l03Crossings -/
def s_l03Crossings {β : Type} (z : β) (N : Nat) (g_0 : Int) (g_1 : Nat → Int) (g_2 : Nat → Int) (k0 : Nat → Nat → Nat → (List Int) → β) : β :=
  s_l03Crossings_l0 z N g_0 g_1 g_2 N 0 0 0 0 (List.replicate 0 0) (fun q6 q7 q8 q9 => k0 q6 q7 q8 q9)

/-- spec.l03Writhe, loop -/
def s_l03Writhe_l0_s {β : Type} (z : β) (list_n : Nat) (list_l : Nat) (list_c : Nat) (h0_0 : Int) (h0_1 : Nat → Int) (h0_2 : Nat → Int) (h1 : List Int) (out : Int) (i : Int) (kn : Int → Int → β) (k0 : Int → β) : β :=
  cond (list_l.ble 9223372036854775807) (cond (decide (i < (↑list_l : Int))) (cond (list_n.beq h1.length && (decide (0 ≤ i) && decide (i < (↑list_l : Int)))) (cond (list_n.beq h1.length && (addO (i.toNat * 3) 2).blt h1.length) (cond (fits IntKind.i64 (out + h1[addO (i.toNat * 3) 2]?.getD 0)) (cond (fits IntKind.i64 (i + 1)) (kn (out + h1[addO (i.toNat * 3) 2]?.getD 0) (i + 1)) (z)) (z)) (z)) (z)) (k0 out)) (z)
def s_l03Writhe_l0 {β : Type} (z : β) (list_n : Nat) (list_l : Nat) (list_c : Nat) (h0_0 : Int) (h0_1 : Nat → Int) (h0_2 : Nat → Int) (h1 : List Int) : Nat → Int → Int → (Int → β) → β
  | 0, _, _, _ => z
  | m + 1, out, i, k0 => s_l03Writhe_l0_s z list_n list_l list_c h0_0 h0_1 h0_2 h1 out i (fun out i => s_l03Writhe_l0 z list_n list_l list_c h0_0 h0_1 h0_2 h1 m out i k0) k0

/-- spec.l03Writhe -/
def s_l03Writhe {β : Type} (z : β) (N : Nat) (g_0 : Int) (g_1 : Nat → Int) (g_2 : Nat → Int) (k0 : Int → β) : β :=
  s_l03Crossings z N g_0 g_1 g_2 (fun q6 q7 q8 q9 => s_l03Writhe_l0 z q6 q7 q8 g_0 g_1 g_2 q9 N 0 0 (fun q10 => k0 q10))

/-- spec.l07Numbers -/
def s_l07Numbers {β : Type} (z : β) (N : Nat) (g_0 : Int) (g_1 : Nat → Int) (g_2 : Nat → Int) (k0 : Int → Int → β) : β :=
  s_l07Cusps z N g_0 g_1 g_2 (-1) (fun q6 q7 => s_l03Writhe z N g_0 g_1 g_2 (fun q8 => cond (fits IntKind.i64 (-q8)) (cond (fits IntKind.i64 (q6 + q7)) (cond (fits IntKind.i64 ((q6 + q7).tdiv 2)) (cond (fits IntKind.i64 (-q8 - (q6 + q7).tdiv 2)) (cond (fits IntKind.i64 (q6 - q7)) (cond (fits IntKind.i64 ((q6 - q7).tdiv 2)) (k0 (-q8 - (q6 + q7).tdiv 2) ((q6 - q7).tdiv 2)) (z)) (z)) (z)) (z)) (z)) (z)))

/-- spec.RotationOf -/
def s_RotationOf {β : Type} (z : β) (N : Nat) (g_0 : Int) (g_1 : Nat → Int) (g_2 : Nat → Int) (k0 : Int → Int → β) : β :=
  s_l01Is z N g_0 g_1 g_2 (fun q6 => cond (!q6) (k0 0 1) (s_l07Numbers z N g_0 g_1 g_2 (fun q7 q8 => k0 q8 0)))

/-- impl.isBetween -/
def i_isBetween {β : Type} (z : β) (N : Nat) (x : Int) (a : Int) (b : Int) (k0 : Bool → β) : β :=
  cond (decide ((bif decide (b < a) then b else a) < x)) (k0 (decide (x < bif decide (a < b) then b else a))) (k0 false)

/-- (impl.Grid).crossings, loop -/
def i_Grid_crossings_l1_s {β : Type} (z : β) (N : Nat) (t6 : Int) (t21 : Int) (t22 : Int) (t26 : Int) (h0_0 : Int) (h0_1 : Nat → Int) (h0_2 : Nat → Int) (h2 : Nat → Int) (h3 : Nat → Int) (t5_n : Nat) (t5_l : Nat) (t5_c : Nat) (t27 : Int) (h1 : List Int) (kn : Nat → Nat → Nat → Int → (List Int) → β) (k0 : Nat → Nat → Nat → (List Int) → β) : β :=
  cond (decide (t27 < t26)) (cond (decide (0 ≤ t6) && decide (t6 < (↑8 : Int))) (cond (t6.toNat.blt 8) (cond (decide (0 ≤ t6) && decide (t6 < (↑8 : Int))) (cond (t6.toNat.blt 8) (i_isBetween z N t27 (h0_1 t6.toNat) (h0_2 t6.toNat) (fun q18 => cond (!q18) (cond (fits IntKind.i64 (t27 + 1)) (kn t5_n t5_l t5_c (t27 + 1) h1) (z)) (cond (decide (0 ≤ t27) && decide (t27 < (↑8 : Int))) (cond (t27.toNat.blt 8) (cond (decide (0 ≤ t27) && decide (t27 < (↑8 : Int))) (cond (t27.toNat.blt 8) (i_isBetween z N t6 (h2 t27.toNat) (h3 t27.toNat) (fun q19 => cond (!q19) (cond (fits IntKind.i64 (t27 + 1)) (kn t5_n t5_l t5_c (t27 + 1) h1) (z)) (cond (decide (0 ≤ t6) && decide (t6 < (↑8 : Int))) (cond (t6.toNat.blt 8) (cond (decide (0 ≤ t6) && decide (t6 < (↑8 : Int))) (cond (t6.toNat.blt 8) (cond (decide (0 ≤ t27) && decide (t27 < (↑8 : Int))) (cond (t27.toNat.blt 8) (cond (decide (0 ≤ t27) && decide (t27 < (↑8 : Int))) (cond (t27.toNat.blt 8) (cond (decide (h0_1 t6.toNat < h0_2 t6.toNat) != decide (h3 t27.toNat < h2 t27.toNat)) (cond (t5_n.beq h1.length && true) (cond ((t5_l + 1).ble 1099511627776 && ((t5_l + 1) * 24).ble 1099511627776) (cond ((t5_l + 1).ble t5_c) (cond (t5_n.beq h1.length && (0 + t5_l * 3 + 3).ble h1.length) (cond (fits IntKind.i64 (t27 + 1)) (kn t5_n (t5_l + 1) t5_c (t27 + 1) (List.take (0 + t5_l * 3) h1 ++ (List.map (upd (upd (upd (fun (x : Nat) => 0) 0 t6) 1 t27) 2 1) (List.range 3) ++ List.drop (0 + t5_l * 3 + 3) h1))) (z)) (z)) (cond ((t5_l * 3).beq h1.length) (cond (fits IntKind.i64 (t27 + 1)) (kn ((h1 ++ List.map (upd (upd (upd (fun (x : Nat) => 0) 0 t6) 1 t27) 2 1) (List.range 3)).length) (t5_l + 1) (t5_l + 1) (t27 + 1) (h1 ++ List.map (upd (upd (upd (fun (x : Nat) => 0) 0 t6) 1 t27) 2 1) (List.range 3))) (z)) (z))) (z)) (z)) (cond (t5_n.beq h1.length && true) (cond ((t5_l + 1).ble 1099511627776 && ((t5_l + 1) * 24).ble 1099511627776) (cond ((t5_l + 1).ble t5_c) (cond (t5_n.beq h1.length && (0 + t5_l * 3 + 3).ble h1.length) (cond (fits IntKind.i64 (t27 + 1)) (kn t5_n (t5_l + 1) t5_c (t27 + 1) (List.take (0 + t5_l * 3) h1 ++ (List.map (upd (upd (upd (fun (x : Nat) => 0) 0 t6) 1 t27) 2 (-1)) (List.range 3) ++ List.drop (0 + t5_l * 3 + 3) h1))) (z)) (z)) (cond ((t5_l * 3).beq h1.length) (cond (fits IntKind.i64 (t27 + 1)) (kn ((h1 ++ List.map (upd (upd (upd (fun (x : Nat) => 0) 0 t6) 1 t27) 2 (-1)) (List.range 3)).length) (t5_l + 1) (t5_l + 1) (t27 + 1) (h1 ++ List.map (upd (upd (upd (fun (x : Nat) => 0) 0 t6) 1 t27) 2 (-1)) (List.range 3))) (z)) (z))) (z)) (z))) (z)) (z)) (z)) (z)) (z)) (z)) (z)) (z)))) (z)) (z)) (z)) (z)))) (z)) (z)) (z)) (z)) (k0 t5_n t5_l t5_c h1)
def i_Grid_crossings_l1 {β : Type} (z : β) (N : Nat) (t6 : Int) (t21 : Int) (t22 : Int) (t26 : Int) (h0_0 : Int) (h0_1 : Nat → Int) (h0_2 : Nat → Int) (h2 : Nat → Int) (h3 : Nat → Int) : Nat → Nat → Nat → Nat → Int → (List Int) → (Nat → Nat → Nat → (List Int) → β) → β
  | 0, _, _, _, _, _, _ => z
  | m + 1, t5_n, t5_l, t5_c, t27, h1, k0 => i_Grid_crossings_l1_s z N t6 t21 t22 t26 h0_0 h0_1 h0_2 h2 h3 t5_n t5_l t5_c t27 h1 (fun t5_n t5_l t5_c t27 h1 => i_Grid_crossings_l1 z N t6 t21 t22 t26 h0_0 h0_1 h0_2 h2 h3 m t5_n t5_l t5_c t27 h1 k0) k0

/-- (impl.Grid).crossings, loop -/
def i_Grid_crossings_l0_s {β : Type} (z : β) (N : Nat) (t21 : Int) (h0_0 : Int) (h0_1 : Nat → Int) (h0_2 : Nat → Int) (h2 : Nat → Int) (h3 : Nat → Int) (t5_n : Nat) (t5_l : Nat) (t5_c : Nat) (t22 : Int) (h1 : List Int) (kn : Nat → Nat → Nat → Int → (List Int) → β) (k0 : Nat → Nat → Nat → (List Int) → β) : β :=
  cond (decide (t22 < t21)) (i_Grid_n z N h0_0 h0_1 h0_2 (i_Grid_crossings_l1 z N t22 t21 t22 h0_0 h0_0 h0_1 h0_2 h2 h3 N t5_n t5_l t5_c 0 h1 (fun q15 q16 q17 q18 => cond (fits IntKind.i64 (t22 + 1)) (kn q15 q16 q17 (t22 + 1) q18) (z)))) (k0 t5_n t5_l t5_c h1)
def i_Grid_crossings_l0 {β : Type} (z : β) (N : Nat) (t21 : Int) (h0_0 : Int) (h0_1 : Nat → Int) (h0_2 : Nat → Int) (h2 : Nat → Int) (h3 : Nat → Int) : Nat → Nat → Nat → Nat → Int → (List Int) → (Nat → Nat → Nat → (List Int) → β) → β
  | 0, _, _, _, _, _, _ => z
  | m + 1, t5_n, t5_l, t5_c, t22, h1, k0 => i_Grid_crossings_l0_s z N t21 h0_0 h0_1 h0_2 h2 h3 t5_n t5_l t5_c t22 h1 (fun t5_n t5_l t5_c t22 h1 => i_Grid_crossings_l0 z N t21 h0_0 h0_1 h0_2 h2 h3 m t5_n t5_l t5_c t22 h1 k0) k0

/-- (impl.Grid).crossings -/
def i_Grid_crossings {β : Type} (z : β) (N : Nat) (g_0 : Int) (g_1 : Nat → Int) (g_2 : Nat → Int) (k0 : Nat → Nat → Nat → (List Int) → β) : β :=
  i_Grid_places z N g_0 g_1 g_2 g_1 (fun q6 => i_Grid_places z N g_0 g_1 g_2 g_2 (fun q7 => i_Grid_n z N g_0 g_1 g_2 (i_Grid_crossings_l0 z N g_0 g_0 g_1 g_2 q6 q7 N 0 0 0 0 (List.replicate 0 0) (fun q8 q9 q10 q11 => k0 q8 q9 q10 q11))))

/-- (impl.Grid).writhe, loop -/
def i_Grid_writhe_l0_s {β : Type} (z : β) (t7_n : Nat) (t7_l : Nat) (t7_c : Nat) (t8 : Int) (h0_0 : Int) (h0_1 : Nat → Int) (h0_2 : Nat → Int) (h1 : List Int) (sum : Int) (t9 : Int) (kn : Int → Int → β) (k0 : Int → β) : β :=
  cond (decide (t9 < t8)) (cond (t7_n.beq h1.length && (decide (0 ≤ t9) && decide (t9 < (↑t7_l : Int)))) (cond (t7_n.beq h1.length && (t9.toNat * 3 + 3).ble h1.length) (cond (fits IntKind.i64 (sum + h1[addO (t9.toNat * 3) 2]?.getD 0)) (cond (fits IntKind.i64 (t9 + 1)) (kn (sum + h1[addO (t9.toNat * 3) 2]?.getD 0) (t9 + 1)) (z)) (z)) (z)) (z)) (k0 sum)
def i_Grid_writhe_l0 {β : Type} (z : β) (t7_n : Nat) (t7_l : Nat) (t7_c : Nat) (t8 : Int) (h0_0 : Int) (h0_1 : Nat → Int) (h0_2 : Nat → Int) (h1 : List Int) : Nat → Int → Int → (Int → β) → β
  | 0, _, _, _ => z
  | m + 1, sum, t9, k0 => i_Grid_writhe_l0_s z t7_n t7_l t7_c t8 h0_0 h0_1 h0_2 h1 sum t9 (fun sum t9 => i_Grid_writhe_l0 z t7_n t7_l t7_c t8 h0_0 h0_1 h0_2 h1 m sum t9 k0) k0

/-- (impl.Grid).writhe -/
def i_Grid_writhe {β : Type} (z : β) (N : Nat) (g_0 : Int) (g_1 : Nat → Int) (g_2 : Nat → Int) (k0 : Int → β) : β :=
  i_Grid_crossings z N g_0 g_1 g_2 (fun q6 q7 q8 q9 => cond (q7.ble 9223372036854775807) (i_Grid_writhe_l0 z q6 q7 q8 (↑q7 : Int) g_0 g_1 g_2 q9 N 0 0 (fun q10 => k0 q10)) (z))

/-- (impl.front).numbers -/
def i_front_numbers {β : Type} (z : β) (N : Nat) (f : Nat → Int) (writhe : Int) (k0 : (List Int) → β) : β :=
  cond (fits IntKind.i64 (-writhe)) (cond (fits IntKind.i64 ((f 0).tdiv 2)) (cond (fits IntKind.i64 (-writhe - (f 0).tdiv 2)) (cond (fits IntKind.i64 (f 2 - f 1)) (cond (fits IntKind.i64 ((f 2 - f 1).tdiv 2)) (k0 (((List.replicate 2 0).set 0 (-writhe - (f 0).tdiv 2)).set 1 ((f 2 - f 1).tdiv 2))) (z)) (z)) (z)) (z)) (z)

/-- (impl.Grid).numbers -/
def i_Grid_numbers {β : Type} (z : β) (N : Nat) (g_0 : Int) (g_1 : Nat → Int) (g_2 : Nat → Int) (k0 : (List Int) → β) : β :=
  i_Grid_front z N g_0 g_1 g_2 (fun q6 => i_Grid_writhe z N g_0 g_1 g_2 (fun q7 => i_front_numbers z N q6 q7 (fun q8 => k0 q8)))

/-- impl.RotationOf$1 -/
def i_RotationOf_1 {β : Type} (z : β) (N : Nat) (g_0 : Int) (g_1 : Nat → Int) (g_2 : Nat → Int) (k0 : Int → β) : β :=
  i_Grid_numbers z N g_0 g_1 g_2 (fun q6 => cond (Nat.beq 2 q6.length && true) (cond (Nat.beq 2 q6.length && Nat.blt 1 q6.length) (k0 (q6[1]?.getD 0)) (z)) (z))

/-- impl.whole[int64] -/
def i_whole_int64_v1_s2 {β : Type} (z : β) (N : Nat) (g_0 : Int) (g_1 : Nat → Int) (g_2 : Nat → Int) (k0 : Int → Int → β) : β :=
  i_IsGrid z N g_0 g_1 g_2 (fun q6 => cond (!q6) (k0 0 1) (i_RotationOf_1 z N g_0 g_1 g_2 (fun q7 => k0 q7 0)))

/-- impl.RotationOf -/
def i_RotationOf {β : Type} (z : β) (N : Nat) (g_0 : Int) (g_1 : Nat → Int) (g_2 : Nat → Int) (k0 : Int → Int → β) : β :=
  i_whole_int64_v1_s2 z N g_0 g_1 g_2 (fun q6 q7 => k0 q6 q7)

end Go.AM

set_option maxRecDepth 100000
namespace Go.AM
end Go.AM

set_option maxRecDepth 100000
namespace Go.AM
/-- (impl.Grid).component, loop -/
def i_Grid_component_l1_s {β : Type} (z : β) (many : Int) (t16 : Int) (t17 : Int) (h0_0 : Int) (h0_1 : Nat → Int) (h0_2 : Nat → Int) (h1 : Nat → Int) (h3 : Nat → Int) (k : Int) (h2 : Nat → Int) (kn : Int → (Nat → Int) → β) (k0 : (Nat → Int) → β) : β :=
  cond (decide (0 ≤ k) && decide (k < (↑8 : Int))) (cond (k.toNat.blt 8) (cond (h2 k.toNat == 0) (cond (decide (0 ≤ k) && decide (k < (↑8 : Int))) (cond (k.toNat.blt 8) (cond (decide (0 ≤ k) && decide (k < (↑8 : Int))) (cond (k.toNat.blt 8) (cond (decide (0 ≤ h0_2 k.toNat) && decide (h0_2 k.toNat < (↑8 : Int))) (cond ((h0_2 k.toNat).toNat.blt 8) (kn (h3 (h0_2 k.toNat).toNat) (upd h2 k.toNat many)) (z)) (z)) (z)) (z)) (z)) (z)) (k0 h2)) (z)) (z)
def i_Grid_component_l1 {β : Type} (z : β) (many : Int) (t16 : Int) (t17 : Int) (h0_0 : Int) (h0_1 : Nat → Int) (h0_2 : Nat → Int) (h1 : Nat → Int) (h3 : Nat → Int) : Nat → Int → (Nat → Int) → ((Nat → Int) → β) → β
  | 0, _, _, _ => z
  | m + 1, k, h2, k0 => i_Grid_component_l1_s z many t16 t17 h0_0 h0_1 h0_2 h1 h3 k h2 (fun k h2 => i_Grid_component_l1 z many t16 t17 h0_0 h0_1 h0_2 h1 h3 m k h2 k0) k0

/-- (impl.Grid).component, loop -/
def i_Grid_component_l0_s {β : Type} (z : β) (N : Nat) (t16 : Int) (h0_0 : Int) (h0_1 : Nat → Int) (h0_2 : Nat → Int) (h1 : Nat → Int) (h3 : Nat → Int) (many : Int) (t17 : Int) (h2 : Nat → Int) (kn : Int → Int → (Nat → Int) → β) (k0 : Int → (Nat → Int) → β) : β :=
  cond (decide (t17 < t16)) (cond (decide (0 ≤ t17) && decide (t17 < (↑8 : Int))) (cond (t17.toNat.blt 8) (cond (decide (0 < h2 t17.toNat)) (cond (fits IntKind.i64 (t17 + 1)) (kn many (t17 + 1) h2) (z)) (cond (fits IntKind.i64 (many + 1)) (i_Grid_component_l1 z (many + 1) t16 t17 h0_0 h0_1 h0_2 h1 h3 N t17 h2 (fun q13 => cond (fits IntKind.i64 (t17 + 1)) (kn (many + 1) (t17 + 1) q13) (z))) (z))) (z)) (z)) (k0 many h2)
def i_Grid_component_l0 {β : Type} (z : β) (N : Nat) (t16 : Int) (h0_0 : Int) (h0_1 : Nat → Int) (h0_2 : Nat → Int) (h1 : Nat → Int) (h3 : Nat → Int) : Nat → Int → Int → (Nat → Int) → (Int → (Nat → Int) → β) → β
  | 0, _, _, _, _ => z
  | m + 1, many, t17, h2, k0 => i_Grid_component_l0_s z N t16 h0_0 h0_1 h0_2 h1 h3 many t17 h2 (fun many t17 h2 => i_Grid_component_l0 z N t16 h0_0 h0_1 h0_2 h1 h3 m many t17 h2 k0) k0

/-- (impl.Grid).component, loop -/
def i_Grid_component_l2_s {β : Type} (z : β) (many : Int) (t42 : Int) (h0_0 : Int) (h0_1 : Nat → Int) (h0_2 : Nat → Int) (h1 : Nat → Int) (h3 : Nat → Int) (t43 : Int) (h2 : Nat → Int) (kn : Int → (Nat → Int) → β) (k0 : (Nat → Int) → β) : β :=
  cond (decide (t43 < t42)) (cond (decide (0 ≤ t43) && decide (t43 < (↑8 : Int))) (cond (t43.toNat.blt 8) (cond (fits IntKind.i64 (h2 t43.toNat - 1)) (cond (decide (0 ≤ t43) && decide (t43 < (↑8 : Int))) (cond (t43.toNat.blt 8) (cond (fits IntKind.i64 (t43 + 1)) (kn (t43 + 1) (upd h2 t43.toNat (h2 t43.toNat - 1))) (z)) (z)) (z)) (z)) (z)) (z)) (k0 h2)
def i_Grid_component_l2 {β : Type} (z : β) (many : Int) (t42 : Int) (h0_0 : Int) (h0_1 : Nat → Int) (h0_2 : Nat → Int) (h1 : Nat → Int) (h3 : Nat → Int) : Nat → Int → (Nat → Int) → ((Nat → Int) → β) → β
  | 0, _, _, _ => z
  | m + 1, t43, h2, k0 => i_Grid_component_l2_s z many t42 h0_0 h0_1 h0_2 h1 h3 t43 h2 (fun t43 h2 => i_Grid_component_l2 z many t42 h0_0 h0_1 h0_2 h1 h3 m t43 h2 k0) k0

/-- (impl.Grid).component -/
def i_Grid_component {β : Type} (z : β) (N : Nat) (g_0 : Int) (g_1 : Nat → Int) (g_2 : Nat → Int) (k0 : (Nat → Int) → Int → β) : β :=
  i_Grid_places z N g_0 g_1 g_2 g_1 (fun q6 => i_Grid_n z N g_0 g_1 g_2 (i_Grid_component_l0 z N g_0 g_0 g_1 g_2 (fun (x : Nat) => 0) q6 N 0 0 (fun (x : Nat) => 0) (fun q7 q8 => i_Grid_n z N g_0 g_1 g_2 (i_Grid_component_l2 z q7 g_0 g_0 g_1 g_2 (fun (x : Nat) => 0) q6 N 0 q8 (fun q9 => k0 q9 q7)))))

/-- (impl.Grid).isKnot -/
def i_Grid_isKnot {β : Type} (z : β) (N : Nat) (g_0 : Int) (g_1 : Nat → Int) (g_2 : Nat → Int) (k0 : Bool → β) : β :=
  i_Grid_component z N g_0 g_1 g_2 (fun q6 q7 => k0 (q7 == 1))

/-- impl.SelfLinkings$1 -/
def i_SelfLinkings_1 {β : Type} (z : β) (N : Nat) (g_0 : Int) (g_1 : Nat → Int) (g_2 : Nat → Int) (k0 : (List Int) → β) : β :=
  i_Grid_numbers z N g_0 g_1 g_2 (fun q6 => cond (Nat.beq 2 q6.length && true) (cond (Nat.beq 2 q6.length && Nat.blt 0 q6.length) (cond (Nat.beq 2 q6.length && true) (cond (Nat.beq 2 q6.length && Nat.blt 1 q6.length) (cond (fits IntKind.i64 (q6[0]?.getD 0 - q6[1]?.getD 0)) (cond (Nat.beq 2 q6.length && true) (cond (Nat.beq 2 q6.length && Nat.blt 0 q6.length) (cond (Nat.beq 2 q6.length && true) (cond (Nat.beq 2 q6.length && Nat.blt 1 q6.length) (cond (fits IntKind.i64 (q6[0]?.getD 0 + q6[1]?.getD 0)) (k0 (((List.replicate 2 0).set 0 (q6[0]?.getD 0 - q6[1]?.getD 0)).set 1 (q6[0]?.getD 0 + q6[1]?.getD 0))) (z)) (z)) (z)) (z)) (z)) (z)) (z)) (z)) (z)) (z))

/-- impl.knotted[[]int64] -/
def i_knotted_int64 {β : Type} (z : β) (N : Nat) (g_0 : Int) (g_1 : Nat → Int) (g_2 : Nat → Int) (k0 : Int → β) (k1 : Int → (List Int) → β) : β :=
  i_IsGrid z N g_0 g_1 g_2 (fun q6 => cond (!q6) (k0 1) (i_Grid_isKnot z N g_0 g_1 g_2 (fun q7 => cond (!q7) (k0 5) (i_SelfLinkings_1 z N g_0 g_1 g_2 (fun q8 => k1 0 q8)))))

/-- impl.SelfLinkings -/
def i_SelfLinkings {β : Type} (z : β) (N : Nat) (g_0 : Int) (g_1 : Nat → Int) (g_2 : Nat → Int) (k0 : Int → β) (k1 : Int → (List Int) → β) : β :=
  i_knotted_int64 z N g_0 g_1 g_2 (fun q6 => k0 q6) (fun q6 q7 => k1 q6 q7)

end Go.AM

set_option maxRecDepth 100000
namespace Go.AM
end Go.AM

set_option maxRecDepth 100000
namespace Go.AM
end Go.AM

set_option maxRecDepth 100000
namespace Go.AM
end Go.AM

set_option maxRecDepth 100000
namespace Go.AM
end Go.AM

set_option maxRecDepth 100000
namespace Go.AM
/-- spec.l01Spoil -/
def s_l01Spoil {β : Type} (z : β) (N : Nat) (h0_n : Nat) (h0 : Nat → Int) (h1_0_n : Nat) (h1_0_l : Nat) (h1_0_c : Nat) (h1_1 : Int) (h1_2 : Int) (k0 : Int → (Nat → Int) → (Nat → Int) → Int → Int → β) : β :=
  s_l01Draw_s2 z N h0_n h0 h1_0_n h1_0_l h1_0_c h1_1 h1_2 (fun q10 q11 q12 q13 q14 => s_l01Broken_s2 z N q10 q11 q12 h0_n h0 h1_0_n h1_0_l h1_0_c q13 q14 (fun q15 q16 q17 q18 q19 => k0 q15 q16 q17 q18 q19))

end Go.AM

set_option maxRecDepth 100000
namespace Go.AM
/-- spec.l05Below, loop -/
def s_l05Below_l1_s {β : Type} (z : β) (n : Int) (more : Int) (other : Int) (i : Int) (h0 : Nat → Int) (h1 : Nat → Int) (count : Int) (k : Int) (kn : Int → Int → β) (k0 : Int → β) : β :=
  cond (decide (k < n)) (cond (fits IntKind.i64 (2 * i)) (cond (fits IntKind.i64 (2 * i + more)) (cond (fits IntKind.i64 (2 * k)) (cond (fits IntKind.i64 (2 * k + other)) (cond (decide (2 * i + more < 2 * k + other)) (cond (decide (0 ≤ i) && decide (i < (↑8 : Int))) (cond (i.toNat.blt 8) (cond (fits IntKind.i64 (2 * h0 i.toNat)) (cond (fits IntKind.i64 (2 * h0 i.toNat + more)) (cond (decide (0 ≤ k) && decide (k < (↑8 : Int))) (cond (k.toNat.blt 8) (cond (fits IntKind.i64 (2 * h1 k.toNat)) (cond (fits IntKind.i64 (2 * h1 k.toNat + other)) (cond (decide (2 * h0 i.toNat + more < 2 * h1 k.toNat + other)) (cond (fits IntKind.i64 (count + 1)) (cond (fits IntKind.i64 (k + 1)) (kn (count + 1) (k + 1)) (z)) (z)) (cond (fits IntKind.i64 (k + 1)) (kn count (k + 1)) (z))) (z)) (z)) (z)) (z)) (z)) (z)) (z)) (z)) (cond (fits IntKind.i64 (k + 1)) (kn count (k + 1)) (z))) (z)) (z)) (z)) (z)) (k0 count)
def s_l05Below_l1 {β : Type} (z : β) (n : Int) (more : Int) (other : Int) (i : Int) (h0 : Nat → Int) (h1 : Nat → Int) : Nat → Int → Int → (Int → β) → β
  | 0, _, _, _ => z
  | m + 1, count, k, k0 => s_l05Below_l1_s z n more other i h0 h1 count k (fun count k => s_l05Below_l1 z n more other i h0 h1 m count k k0) k0

/-- impl.isOrder, loop -/
def i_isOrder_l0_s4_s {β : Type} (z : β) (n : Int) (h0 : Nat → Int) (seen : Int) (t10 : Int) (kn : Int → Int → β) (k0 : β) (k1 : Int → β) : β :=
  cond (decide (t10 < 8)) (cond (decide (0 ≤ t10) && decide (t10 < (↑8 : Int))) (cond (t10.toNat.blt 8) (cond (decide (n ≤ t10)) (cond (h0 t10.toNat != 0) (k0) (cond (decide (n ≤ h0 t10.toNat)) (k0) (cond (decide (t10 < n)) (cond (decide (0 ≤ h0 t10.toNat) && decide (h0 t10.toNat < (↑64 : Int))) (cond (fits IntKind.i64 (shlI 1 (h0 t10.toNat))) (cond (fits IntKind.i64 (t10 + 1)) (kn (bitI BinOp.or IntKind.i64 seen (shlI 1 (h0 t10.toNat))) (t10 + 1)) (z)) (z)) (z)) (cond (fits IntKind.i64 (t10 + 1)) (kn seen (t10 + 1)) (z))))) (cond (decide (n ≤ h0 t10.toNat)) (k0) (cond (decide (t10 < n)) (cond (decide (0 ≤ h0 t10.toNat) && decide (h0 t10.toNat < (↑64 : Int))) (cond (fits IntKind.i64 (shlI 1 (h0 t10.toNat))) (cond (fits IntKind.i64 (t10 + 1)) (kn (bitI BinOp.or IntKind.i64 seen (shlI 1 (h0 t10.toNat))) (t10 + 1)) (z)) (z)) (z)) (cond (fits IntKind.i64 (t10 + 1)) (kn seen (t10 + 1)) (z))))) (z)) (z)) (k1 seen)
def i_isOrder_l0_s4 {β : Type} (z : β) (n : Int) (h0 : Nat → Int) : Nat → Int → Int → β → (Int → β) → β
  | 0, _, _, _, _ => z
  | m + 1, seen, t10, k0, k1 => i_isOrder_l0_s4_s z n h0 seen t10 (fun seen t10 => i_isOrder_l0_s4 z n h0 m seen t10 k0 k1) k0 k1

/-- impl.isOrder -/
def i_isOrder_s4 {β : Type} (z : β) (N : Nat) (n : Int) (h0 : Nat → Int) (k0 : Bool → β) : β :=
  i_isOrder_l0_s4 z n h0 N 0 0 (k0 false) (fun q5 => cond (decide (0 ≤ n) && decide (n < (↑64 : Int))) (cond (fits IntKind.i64 (shlI 1 n)) (cond (fits IntKind.i64 (shlI 1 n - 1)) (k0 (q5 == shlI 1 n - 1)) (z)) (z)) (z))

/-- (impl.Grid).isState -/
def i_Grid_isState {β : Type} (z : β) (N : Nat) (g_0 : Int) (g_1 : Nat → Int) (g_2 : Nat → Int) (x : Nat → Int) (k0 : Bool → β) : β :=
  i_Grid_n z N g_0 g_1 g_2 (i_isOrder_s4 z N g_0 x (fun q7 => k0 q7))

/-- impl.IsState -/
def i_IsState {β : Type} (z : β) (N : Nat) (g_0 : Int) (g_1 : Nat → Int) (g_2 : Nat → Int) (x : Nat → Int) (k0 : Bool → β) : β :=
  i_IsGrid z N g_0 g_1 g_2 (fun q7 => cond (q7) (i_Grid_isState z N g_0 g_1 g_2 x (fun q8 => k0 q8)) (k0 false))

/-- impl.pairsBelow$1 -/
def i_pairsBelow_1 {β : Type} (z : β) (N : Nat) (k : Int) (half : Bool) (k0 : Int → β) : β :=
  cond (half) (cond (fits IntKind.i64 (2 * k)) (cond (fits IntKind.i64 (2 * k + 1)) (k0 (2 * k + 1)) (z)) (z)) (cond (fits IntKind.i64 (2 * k)) (k0 (2 * k)) (z))

/-- impl.pairsBelow, loop -/
def i_pairsBelow_l1_s {β : Type} (z : β) (N : Nat) (n : Int) (shifted : Bool) (other : Bool) (i : Int) (t15 : Int) (t16 : Int) (t19 : Int) (h0 : Nat → Int) (h1 : Nat → Int) (many : Int) (t20 : Int) (kn : Int → Int → β) (k0 : Int → β) : β :=
  cond (decide (t20 < t19)) (i_pairsBelow_1 z N i shifted (fun q15 => i_pairsBelow_1 z N t20 other (fun q16 => cond (decide (q15 < q16)) (cond (decide (0 ≤ i) && decide (i < (↑8 : Int))) (cond (i.toNat.blt 8) (i_pairsBelow_1 z N (h0 i.toNat) shifted (fun q17 => cond (decide (0 ≤ t20) && decide (t20 < (↑8 : Int))) (cond (t20.toNat.blt 8) (i_pairsBelow_1 z N (h1 t20.toNat) other (fun q18 => cond (decide (q17 < q18)) (cond (fits IntKind.i64 (many + 1)) (cond (fits IntKind.i64 (t20 + 1)) (kn (many + 1) (t20 + 1)) (z)) (z)) (cond (fits IntKind.i64 (t20 + 1)) (kn many (t20 + 1)) (z)))) (z)) (z))) (z)) (z)) (cond (fits IntKind.i64 (t20 + 1)) (kn many (t20 + 1)) (z))))) (k0 many)
def i_pairsBelow_l1 {β : Type} (z : β) (N : Nat) (n : Int) (shifted : Bool) (other : Bool) (i : Int) (t15 : Int) (t16 : Int) (t19 : Int) (h0 : Nat → Int) (h1 : Nat → Int) : Nat → Int → Int → (Int → β) → β
  | 0, _, _, _ => z
  | m + 1, many, t20, k0 => i_pairsBelow_l1_s z N n shifted other i t15 t16 t19 h0 h1 many t20 (fun many t20 => i_pairsBelow_l1 z N n shifted other i t15 t16 t19 h0 h1 m many t20 k0) k0

/-- impl.pairsBelow, loop -/
def i_pairsBelow_l0_s {β : Type} (z : β) (N : Nat) (n : Int) (shifted : Bool) (other : Bool) (t15 : Int) (h0 : Nat → Int) (h1 : Nat → Int) (many : Int) (t16 : Int) (kn : Int → Int → β) (k0 : Int → β) : β :=
  cond (decide (t16 < t15)) (i_pairsBelow_l1 z N n shifted other t16 t15 t16 n h0 h1 N many 0 (fun q12 => cond (fits IntKind.i64 (t16 + 1)) (kn q12 (t16 + 1)) (z))) (k0 many)
def i_pairsBelow_l0 {β : Type} (z : β) (N : Nat) (n : Int) (shifted : Bool) (other : Bool) (t15 : Int) (h0 : Nat → Int) (h1 : Nat → Int) : Nat → Int → Int → (Int → β) → β
  | 0, _, _, _ => z
  | m + 1, many, t16, k0 => i_pairsBelow_l0_s z N n shifted other t15 h0 h1 many t16 (fun many t16 => i_pairsBelow_l0 z N n shifted other t15 h0 h1 m many t16 k0) k0

/-- impl.pairsBelow -/
def i_pairsBelow {β : Type} (z : β) (N : Nat) (n : Int) (p : Nat → Int) (shifted : Bool) (q : Nat → Int) (other : Bool) (k0 : Int → β) : β :=
  i_pairsBelow_l0 z N n shifted other n p q N 0 0 (fun q8 => k0 q8)

/-- (impl.Grid).maslov -/
def i_Grid_maslov {β : Type} (z : β) (N : Nat) (g_0 : Int) (g_1 : Nat → Int) (g_2 : Nat → Int) (x : Nat → Int) (marks : Nat → Int) (k0 : Int → β) : β :=
  i_Grid_n z N g_0 g_1 g_2 (i_pairsBelow z N g_0 x false x false (fun q8 => i_pairsBelow z N g_0 x false marks true (fun q9 => cond (fits IntKind.i64 (q8 - q9)) (i_pairsBelow z N g_0 marks true x false (fun q10 => cond (fits IntKind.i64 (q8 - q9 - q10)) (i_pairsBelow z N g_0 marks true marks true (fun q11 => cond (fits IntKind.i64 (q8 - q9 - q10 + q11)) (cond (fits IntKind.i64 (q8 - q9 - q10 + q11 + 1)) (k0 (q8 - q9 - q10 + q11 + 1)) (z)) (z))) (z))) (z))))

end Go.AM

set_option maxRecDepth 100000
namespace Go.AM
end Go.AM

set_option maxRecDepth 100000
namespace Go.AM
/-- spec.l07Upper, loop -/
def s_l07Upper_l0_s {β : Type} (z : β) (h0_0 : Int) (h0_1 : Nat → Int) (h0_2 : Nat → Int) (h1 : Nat → Int) (i : Int) (h2 : Nat → Int) (kn : Int → (Nat → Int) → β) (k0 : (Nat → Int) → β) : β :=
  cond (decide (i < h0_0)) (cond (fits IntKind.i64 (i + 1)) (cond (!h0_0 == 0) (cond (decide (0 ≤ i) && decide (i < (↑8 : Int))) (cond (i.toNat.blt 8) (cond (fits IntKind.i64 (h0_1 i.toNat + 1)) (cond (!h0_0 == 0) (cond (decide (0 ≤ (i + 1).tmod h0_0) && decide ((i + 1).tmod h0_0 < (↑8 : Int))) (cond (((i + 1).tmod h0_0).toNat.blt 8) (cond (fits IntKind.i64 (i + 1)) (kn (i + 1) (upd h2 ((i + 1).tmod h0_0).toNat (wrapU IntKind.u8 ((h0_1 i.toNat + 1).tmod h0_0)))) (z)) (z)) (z)) (z)) (z)) (z)) (z)) (z)) (z)) (k0 h2)
def s_l07Upper_l0 {β : Type} (z : β) (h0_0 : Int) (h0_1 : Nat → Int) (h0_2 : Nat → Int) (h1 : Nat → Int) : Nat → Int → (Nat → Int) → ((Nat → Int) → β) → β
  | 0, _, _, _ => z
  | m + 1, i, h2, k0 => s_l07Upper_l0_s z h0_0 h0_1 h0_2 h1 i h2 (fun i h2 => s_l07Upper_l0 z h0_0 h0_1 h0_2 h1 m i h2 k0) k0

/-- spec.l07Upper -/
def s_l07Upper {β : Type} (z : β) (N : Nat) (g_0 : Int) (g_1 : Nat → Int) (g_2 : Nat → Int) (k0 : (Nat → Int) → β) : β :=
  s_l07Upper_l0 z g_0 g_1 g_2 (fun (x : Nat) => 0) N 0 (fun (x : Nat) => 0) (fun q6 => k0 q6)

/-- spec.UpperState -/
def s_UpperState {β : Type} (z : β) (N : Nat) (g_0 : Int) (g_1 : Nat → Int) (g_2 : Nat → Int) (k0 : (Nat → Int) → Int → β) : β :=
  s_l01Is z N g_0 g_1 g_2 (fun q6 => cond (!q6) (k0 (fun (x : Nat) => 0) 1) (s_l07Upper z N g_0 g_1 g_2 (fun q7 => k0 q7 0)))

/-- impl.UpperState$1, loop -/
def i_UpperState_1_l0_s {β : Type} (z : β) (n : Int) (t9 : Int) (h0_0 : Int) (h0_1 : Nat → Int) (h0_2 : Nat → Int) (h1 : Nat → Int) (t10 : Int) (h2 : Nat → Int) (kn : Int → (Nat → Int) → β) (k0 : (Nat → Int) → β) : β :=
  cond (decide (t10 < t9)) (cond (fits IntKind.i64 (t10 + 1)) (cond (!n == 0) (cond (decide (0 ≤ t10) && decide (t10 < (↑8 : Int))) (cond (t10.toNat.blt 8) (cond (fits IntKind.i64 (h0_1 t10.toNat + 1)) (cond (!n == 0) (cond (decide (0 ≤ (t10 + 1).tmod n) && decide ((t10 + 1).tmod n < (↑8 : Int))) (cond (((t10 + 1).tmod n).toNat.blt 8) (cond (fits IntKind.i64 (t10 + 1)) (kn (t10 + 1) (upd h2 ((t10 + 1).tmod n).toNat (wrapU IntKind.u8 ((h0_1 t10.toNat + 1).tmod n)))) (z)) (z)) (z)) (z)) (z)) (z)) (z)) (z)) (z)) (k0 h2)
def i_UpperState_1_l0 {β : Type} (z : β) (n : Int) (t9 : Int) (h0_0 : Int) (h0_1 : Nat → Int) (h0_2 : Nat → Int) (h1 : Nat → Int) : Nat → Int → (Nat → Int) → ((Nat → Int) → β) → β
  | 0, _, _, _ => z
  | m + 1, t10, h2, k0 => i_UpperState_1_l0_s z n t9 h0_0 h0_1 h0_2 h1 t10 h2 (fun t10 h2 => i_UpperState_1_l0 z n t9 h0_0 h0_1 h0_2 h1 m t10 h2 k0) k0

/-- impl.UpperState$1 -/
def i_UpperState_1 {β : Type} (z : β) (N : Nat) (g_0 : Int) (g_1 : Nat → Int) (g_2 : Nat → Int) (k0 : (Nat → Int) → β) : β :=
  i_Grid_n z N g_0 g_1 g_2 (i_UpperState_1_l0 z g_0 g_0 g_0 g_1 g_2 (fun (x : Nat) => 0) N 0 (fun (x : Nat) => 0) (fun q6 => k0 q6))

/-- impl.whole[impl.State] -/
def i_whole_i_State_s2 {β : Type} (z : β) (N : Nat) (g_0 : Int) (g_1 : Nat → Int) (g_2 : Nat → Int) (k0 : (Nat → Int) → Int → β) : β :=
  i_IsGrid z N g_0 g_1 g_2 (fun q6 => cond (!q6) (k0 (fun (x : Nat) => 0) 1) (i_UpperState_1 z N g_0 g_1 g_2 (fun q7 => k0 q7 0)))

/-- impl.UpperState -/
def i_UpperState {β : Type} (z : β) (N : Nat) (g_0 : Int) (g_1 : Nat → Int) (g_2 : Nat → Int) (k0 : (Nat → Int) → Int → β) : β :=
  i_whole_i_State_s2 z N g_0 g_1 g_2 (fun q6 q7 => k0 q6 q7)

end Go.AM

set_option maxRecDepth 100000
namespace Go.AM
/-- impl.MaslovOf$1 -/
def i_MaslovOf_1 {β : Type} (z : β) (N : Nat) (g_0 : Int) (g_1 : Nat → Int) (g_2 : Nat → Int) (x : Nat → Int) (h0 : Bool) (k0 : Int → β) : β :=
  cond (h0) (i_Grid_maslov z N g_0 g_1 g_2 x g_1 (fun q8 => k0 q8)) (i_Grid_maslov z N g_0 g_1 g_2 x g_2 (fun q8 => k0 q8))

/-- impl.stated[int64] -/
def i_stated_int64_s2 {β : Type} (z : β) (N : Nat) (g_0 : Int) (g_1 : Nat → Int) (g_2 : Nat → Int) (x : Nat → Int) (h0 : Bool) (k0 : Int → Int → β) : β :=
  i_IsState z N g_0 g_1 g_2 x (fun q8 => cond (!q8) (k0 0 1) (i_MaslovOf_1 z N g_0 g_1 g_2 x h0 (fun q9 => k0 q9 0)))

/-- impl.MaslovOf -/
def i_MaslovOf {β : Type} (z : β) (N : Nat) (g_0 : Int) (g_1 : Nat → Int) (g_2 : Nat → Int) (x : Nat → Int) (xs : Bool) (k0 : Int → Int → β) : β :=
  i_stated_int64_s2 z N g_0 g_1 g_2 x xs (fun q8 q9 => k0 q8 q9)

end Go.AM

set_option maxRecDepth 100000
namespace Go.AM
/-- spec.ThurstonBennequin -/
def s_ThurstonBennequin {β : Type} (z : β) (N : Nat) (g_0 : Int) (g_1 : Nat → Int) (g_2 : Nat → Int) (k0 : Int → Int → β) : β :=
  s_l01Is z N g_0 g_1 g_2 (fun q6 => cond (!q6) (k0 0 1) (s_l07Numbers z N g_0 g_1 g_2 (fun q7 q8 => k0 q7 0)))

/-- impl.ThurstonBennequin$1 -/
def i_ThurstonBennequin_1 {β : Type} (z : β) (N : Nat) (g_0 : Int) (g_1 : Nat → Int) (g_2 : Nat → Int) (k0 : Int → β) : β :=
  i_Grid_numbers z N g_0 g_1 g_2 (fun q6 => cond (Nat.beq 2 q6.length && true) (cond (Nat.beq 2 q6.length && Nat.blt 0 q6.length) (k0 (q6[0]?.getD 0)) (z)) (z))

/-- impl.whole[int64] -/
def i_whole_int64_v1_s3 {β : Type} (z : β) (N : Nat) (g_0 : Int) (g_1 : Nat → Int) (g_2 : Nat → Int) (k0 : Int → Int → β) : β :=
  i_IsGrid z N g_0 g_1 g_2 (fun q6 => cond (!q6) (k0 0 1) (i_ThurstonBennequin_1 z N g_0 g_1 g_2 (fun q7 => k0 q7 0)))

/-- impl.ThurstonBennequin -/
def i_ThurstonBennequin {β : Type} (z : β) (N : Nat) (g_0 : Int) (g_1 : Nat → Int) (g_2 : Nat → Int) (k0 : Int → Int → β) : β :=
  i_whole_int64_v1_s3 z N g_0 g_1 g_2 (fun q6 q7 => k0 q6 q7)

end Go.AM

set_option maxRecDepth 100000
namespace Go.AM
/-- spec.DrawThurstonBennequin -/
def s_DrawThurstonBennequin {β : Type} (z : β) (N : Nat) (code_n : Nat) (code_l : Nat) (code_c : Nat) (h0_n : Nat) (h0 : Nat → Int) (k0 : Int → (Nat → Int) → (Nat → Int) → β) : β :=
  s_l01From z N code_n code_l code_c h0_n h0 (fun q8 q9 => s_l01Spoil z N h0_n h0 code_n code_l code_c q8 q9 (fun q10 q11 q12 q13 q14 => k0 q10 q11 q12))

/-- impl.ExchangeOf$1 -/
def i_ExchangeOf_1 {β : Type} (z : β) (N : Nat) (g_0 : Int) (g_1 : Nat → Int) (g_2 : Nat → Int) (k0 : β) : β :=
  k0

/-- impl.whole[impl.Grid] -/
def i_whole_i_Grid_s2 {β : Type} (z : β) (N : Nat) (g_0 : Int) (g_1 : Nat → Int) (g_2 : Nat → Int) (k0 : Int → (Nat → Int) → (Nat → Int) → Int → β) : β :=
  i_IsGrid z N g_0 g_1 g_2 (fun q6 => cond (!q6) (k0 0 (fun (x : Nat) => 0) (fun (x : Nat) => 0) 1) (i_ExchangeOf_1 z N g_0 g_1 g_2 (k0 g_0 g_2 g_1 0)))

/-- impl.ExchangeOf -/
def i_ExchangeOf {β : Type} (z : β) (N : Nat) (g_0 : Int) (g_1 : Nat → Int) (g_2 : Nat → Int) (k0 : Int → (Nat → Int) → (Nat → Int) → Int → β) : β :=
  i_whole_i_Grid_s2 z N g_0 g_1 g_2 (fun q6 q7 q8 q9 => k0 q6 q7 q8 q9)

/-- impl.whole[bool] -/
def i_whole_bool {β : Type} (z : β) (N : Nat) (g_0 : Int) (g_1 : Nat → Int) (g_2 : Nat → Int) (k0 : Bool → Int → β) : β :=
  i_IsGrid z N g_0 g_1 g_2 (fun q6 => cond (!q6) (k0 false 1) (i_Grid_isKnot z N g_0 g_1 g_2 (fun q7 => k0 q7 0)))

/-- impl.IsKnot -/
def i_IsKnot {β : Type} (z : β) (N : Nat) (g_0 : Int) (g_1 : Nat → Int) (g_2 : Nat → Int) (k0 : Bool → Int → β) : β :=
  i_whole_bool z N g_0 g_1 g_2 (fun q6 q7 => k0 q6 q7)

/-- impl.whole[int64] -/
def i_whole_int64_v1_s4 {β : Type} (z : β) (N : Nat) (g_0 : Int) (g_1 : Nat → Int) (g_2 : Nat → Int) (k0 : Int → Int → β) : β :=
  i_IsGrid z N g_0 g_1 g_2 (fun q6 => cond (!q6) (k0 0 1) (i_Grid_writhe z N g_0 g_1 g_2 (fun q7 => k0 q7 0)))

/-- impl.WritheOf -/
def i_WritheOf {β : Type} (z : β) (N : Nat) (g_0 : Int) (g_1 : Nat → Int) (g_2 : Nat → Int) (k0 : Int → Int → β) : β :=
  i_whole_int64_v1_s4 z N g_0 g_1 g_2 (fun q6 q7 => k0 q6 q7)
end Go.AM
