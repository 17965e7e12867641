/- A part of a proof about the given program: an abstract machine, what the given functions come to, and plain laws. -/
import Derived.Test.YtijijnfmcmeioaaDLowerState
import Derived.Test.YtijijnfmcmeioaaDIsMosaic
import Derived.Test.YtijijnfmcmeioaaDTransposeOf
set_option maxRecDepth 100000
namespace Go.AM
/-- spec.l02Place, loop -/
def s_l02Place_l0_s {β : Type} (z : β) (N : Nat) (h0 : List Int) (h1_0 : Int) (h1_1 : Nat → Int) (h1_2 : Nat → Int) (i : Int) (kn : Int → β) (k0 : β) (k1 : β) : β :=
  cond (decide (i < (↑1 : Int))) (cond (Nat.beq 1 h0.length && (decide (0 ≤ i) && decide (i < (↑1 : Int)))) (cond (Nat.beq 1 h0.length && i.toNat.blt h0.length) (cond (fits IntKind.i64 (h1_0 - 2)) (s_l01In z N (h0[i.toNat]?.getD 0) 0 (h1_0 - 2) (fun q9 => cond (!q9) (k0) (cond (fits IntKind.i64 (i + 1)) (kn (i + 1)) (z)))) (z)) (z)) (z)) (k1)
def s_l02Place_l0 {β : Type} (z : β) (N : Nat) (h0 : List Int) (h1_0 : Int) (h1_1 : Nat → Int) (h1_2 : Nat → Int) : Nat → Int → β → β → β
  | 0, _, _, _ => z
  | m + 1, i, k0, k1 => s_l02Place_l0_s z N h0 h1_0 h1_1 h1_2 i (fun i => s_l02Place_l0 z N h0 h1_0 h1_1 h1_2 m i k0 k1) k0 k1

/-- spec.l02Place -/
def s_l02Place {β : Type} (z : β) (N : Nat) (g_0 : Int) (g_1 : Nat → Int) (g_2 : Nat → Int) (h0 : List Int) (k0 : Int → β) : β :=
  s_l01Is z N g_0 g_1 g_2 (fun q7 => cond (!q7) (k0 1) (s_l02Place_l0 z N h0 g_0 g_1 g_2 N 0 (k0 2) (k0 0)))

/-- spec.l01Row, loop -/
def s_l01Row_l0_s {β : Type} (z : β) (n : Int) (r_ : Int) (h0 : Nat → Int) (i : Int) (kn : Int → β) (k0 : Int → β) (k1 : β) : β :=
  cond (decide (i < n)) (cond (decide (0 ≤ i) && decide (i < (↑8 : Int))) (cond (i.toNat.blt 8) (cond (h0 i.toNat == r_) (k0 i) (cond (fits IntKind.i64 (i + 1)) (kn (i + 1)) (z))) (z)) (z)) (k1)
def s_l01Row_l0 {β : Type} (z : β) (n : Int) (r_ : Int) (h0 : Nat → Int) : Nat → Int → (Int → β) → β → β
  | 0, _, _, _ => z
  | m + 1, i, k0, k1 => s_l01Row_l0_s z n r_ h0 i (fun i => s_l01Row_l0 z n r_ h0 m i k0 k1) k0 k1

/-- spec.l01Row -/
def s_l01Row {β : Type} (z : β) (N : Nat) (list : Nat → Int) (n : Int) (r_ : Int) (k0 : Int → β) : β :=
  s_l01Row_l0 z n r_ list N 0 (fun q6 => k0 q6) (k0 0)

/-- spec.l02Free -/
def s_l02Free {β : Type} (z : β) (N : Nat) (a : Int) (a1 : Int) (a2 : Int) (a3 : Int) (k0 : Bool → β) : β :=
  cond (a == a2) (k0 false) (cond (a == a3) (k0 false) (cond (a1 == a2) (k0 false) (cond (a1 == a3) (k0 false) (cond (decide ((bif decide (a1 < a) then a1 else a) < a2)) (cond (decide ((bif decide (a1 < a) then a1 else a) < a3)) (cond (decide (a2 < bif decide (a < a1) then a1 else a) == decide (a3 < bif decide (a < a1) then a1 else a)) (k0 true) (cond (decide ((bif decide (a3 < a2) then a3 else a2) < a)) (cond (decide ((bif decide (a3 < a2) then a3 else a2) < a1)) (k0 (decide (a < bif decide (a2 < a3) then a3 else a2) == decide (a1 < bif decide (a2 < a3) then a3 else a2))) (k0 (decide (a < bif decide (a2 < a3) then a3 else a2) == false))) (cond (decide ((bif decide (a3 < a2) then a3 else a2) < a1)) (k0 (false == decide (a1 < bif decide (a2 < a3) then a3 else a2))) (k0 true)))) (cond (decide (a2 < bif decide (a < a1) then a1 else a) == false) (k0 true) (cond (decide ((bif decide (a3 < a2) then a3 else a2) < a)) (cond (decide ((bif decide (a3 < a2) then a3 else a2) < a1)) (k0 (decide (a < bif decide (a2 < a3) then a3 else a2) == decide (a1 < bif decide (a2 < a3) then a3 else a2))) (k0 (decide (a < bif decide (a2 < a3) then a3 else a2) == false))) (cond (decide ((bif decide (a3 < a2) then a3 else a2) < a1)) (k0 (false == decide (a1 < bif decide (a2 < a3) then a3 else a2))) (k0 true))))) (cond (decide ((bif decide (a1 < a) then a1 else a) < a3)) (cond (false == decide (a3 < bif decide (a < a1) then a1 else a)) (k0 true) (cond (decide ((bif decide (a3 < a2) then a3 else a2) < a)) (cond (decide ((bif decide (a3 < a2) then a3 else a2) < a1)) (k0 (decide (a < bif decide (a2 < a3) then a3 else a2) == decide (a1 < bif decide (a2 < a3) then a3 else a2))) (k0 (decide (a < bif decide (a2 < a3) then a3 else a2) == false))) (cond (decide ((bif decide (a3 < a2) then a3 else a2) < a1)) (k0 (false == decide (a1 < bif decide (a2 < a3) then a3 else a2))) (k0 true)))) (k0 true))))))

/-- spec.l02Rows -/
def s_l02Rows {β : Type} (z : β) (N : Nat) (g_0 : Int) (g_1 : Nat → Int) (g_2 : Nat → Int) (r_ : Int) (k0 : Bool → β) : β :=
  s_l01Row z N g_1 g_0 r_ (fun q7 => s_l01Row z N g_2 g_0 r_ (fun q8 => cond (fits IntKind.i64 (r_ + 1)) (s_l01Row z N g_1 g_0 (r_ + 1) (fun q9 => cond (fits IntKind.i64 (r_ + 1)) (s_l01Row z N g_2 g_0 (r_ + 1) (fun q10 => s_l02Free z N q7 q8 q9 q10 (fun q11 => k0 q11))) (z))) (z)))

/-- spec.l02SwapRows, loop -/
def s_l02SwapRows_l0_s {β : Type} (z : β) (a : Int) (b : Int) (h0_0 : Int) (h1_0 : Int) (h1_1 : Nat → Int) (h1_2 : Nat → Int) (i : Int) (h0_1 : Nat → Int) (h0_2 : Nat → Int) (kn : Int → (Nat → Int) → (Nat → Int) → β) (k0 : (Nat → Int) → (Nat → Int) → β) : β :=
  cond (decide (i < h0_0)) (cond (decide (0 ≤ i) && decide (i < (↑8 : Int))) (cond (i.toNat.blt 8) (cond (h0_1 i.toNat == a) (cond (decide (0 ≤ i) && decide (i < (↑8 : Int))) (cond (i.toNat.blt 8) (cond (decide (0 ≤ i) && decide (i < (↑8 : Int))) (cond (i.toNat.blt 8) (cond (h0_2 i.toNat == a) (cond (decide (0 ≤ i) && decide (i < (↑8 : Int))) (cond (i.toNat.blt 8) (cond (fits IntKind.i64 (i + 1)) (kn (i + 1) (upd h0_1 i.toNat b) (upd h0_2 i.toNat b)) (z)) (z)) (z)) (cond (h0_2 i.toNat == b) (cond (decide (0 ≤ i) && decide (i < (↑8 : Int))) (cond (i.toNat.blt 8) (cond (fits IntKind.i64 (i + 1)) (kn (i + 1) (upd h0_1 i.toNat b) (upd h0_2 i.toNat a)) (z)) (z)) (z)) (cond (fits IntKind.i64 (i + 1)) (kn (i + 1) (upd h0_1 i.toNat b) h0_2) (z)))) (z)) (z)) (z)) (z)) (cond (h0_1 i.toNat == b) (cond (decide (0 ≤ i) && decide (i < (↑8 : Int))) (cond (i.toNat.blt 8) (cond (decide (0 ≤ i) && decide (i < (↑8 : Int))) (cond (i.toNat.blt 8) (cond (h0_2 i.toNat == a) (cond (decide (0 ≤ i) && decide (i < (↑8 : Int))) (cond (i.toNat.blt 8) (cond (fits IntKind.i64 (i + 1)) (kn (i + 1) (upd h0_1 i.toNat a) (upd h0_2 i.toNat b)) (z)) (z)) (z)) (cond (h0_2 i.toNat == b) (cond (decide (0 ≤ i) && decide (i < (↑8 : Int))) (cond (i.toNat.blt 8) (cond (fits IntKind.i64 (i + 1)) (kn (i + 1) (upd h0_1 i.toNat a) (upd h0_2 i.toNat a)) (z)) (z)) (z)) (cond (fits IntKind.i64 (i + 1)) (kn (i + 1) (upd h0_1 i.toNat a) h0_2) (z)))) (z)) (z)) (z)) (z)) (cond (decide (0 ≤ i) && decide (i < (↑8 : Int))) (cond (i.toNat.blt 8) (cond (h0_2 i.toNat == a) (cond (decide (0 ≤ i) && decide (i < (↑8 : Int))) (cond (i.toNat.blt 8) (cond (fits IntKind.i64 (i + 1)) (kn (i + 1) h0_1 (upd h0_2 i.toNat b)) (z)) (z)) (z)) (cond (h0_2 i.toNat == b) (cond (decide (0 ≤ i) && decide (i < (↑8 : Int))) (cond (i.toNat.blt 8) (cond (fits IntKind.i64 (i + 1)) (kn (i + 1) h0_1 (upd h0_2 i.toNat a)) (z)) (z)) (z)) (cond (fits IntKind.i64 (i + 1)) (kn (i + 1) h0_1 h0_2) (z)))) (z)) (z)))) (z)) (z)) (k0 h0_1 h0_2)
def s_l02SwapRows_l0 {β : Type} (z : β) (a : Int) (b : Int) (h0_0 : Int) (h1_0 : Int) (h1_1 : Nat → Int) (h1_2 : Nat → Int) : Nat → Int → (Nat → Int) → (Nat → Int) → ((Nat → Int) → (Nat → Int) → β) → β
  | 0, _, _, _, _ => z
  | m + 1, i, h0_1, h0_2, k0 => s_l02SwapRows_l0_s z a b h0_0 h1_0 h1_1 h1_2 i h0_1 h0_2 (fun i h0_1 h0_2 => s_l02SwapRows_l0 z a b h0_0 h1_0 h1_1 h1_2 m i h0_1 h0_2 k0) k0

/-- spec.l02SwapRows -/
def s_l02SwapRows {β : Type} (z : β) (N : Nat) (g_0 : Int) (g_1 : Nat → Int) (g_2 : Nat → Int) (r_ : Int) (k0 : (Nat → Int) → (Nat → Int) → β) : β :=
  cond (fits IntKind.i64 (r_ + 1)) (s_l02SwapRows_l0 z (wrapU IntKind.u8 r_) (wrapU IntKind.u8 (r_ + 1)) g_0 0 (fun (x : Nat) => 0) (fun (x : Nat) => 0) N 0 g_1 g_2 (fun q7 q8 => k0 q7 q8)) (z)

/-- spec.ExchangeRows -/
def s_ExchangeRows {β : Type} (z : β) (N : Nat) (g_0 : Int) (g_1 : Nat → Int) (g_2 : Nat → Int) (r_ : Int) (k0 : Int → (Nat → Int) → (Nat → Int) → Int → β) : β :=
  s_l02Place z N g_0 g_1 g_2 ((List.replicate 1 0).set 0 r_) (fun q7 => cond (q7 != 0) (k0 0 (fun (x : Nat) => 0) (fun (x : Nat) => 0) q7) (s_l02Rows z N g_0 g_1 g_2 r_ (fun q8 => cond (!q8) (k0 0 (fun (x : Nat) => 0) (fun (x : Nat) => 0) 5) (s_l02SwapRows z N g_0 g_1 g_2 r_ (fun q9 q10 => k0 g_0 q9 q10 0)))))

/-- impl.isPair, loop -/
def i_isPair_l0_s {β : Type} (z : β) (N : Nat) (h0 : List Int) (h1_0 : Int) (h1_1 : Nat → Int) (h1_2 : Nat → Int) (t12 : Int) (kn : Int → β) (k0 : β) (k1 : β) : β :=
  cond (decide (t12 < 1)) (cond (Nat.beq 1 h0.length && (decide (0 ≤ t12) && decide (t12 < (↑1 : Int)))) (cond (Nat.beq 1 h0.length && t12.toNat.blt h0.length) (cond (fits IntKind.i64 (h1_0 - 2)) (i_within z N (h0[t12.toNat]?.getD 0) 0 (h1_0 - 2) (fun q9 => cond (!q9) (k0) (cond (fits IntKind.i64 (t12 + 1)) (kn (t12 + 1)) (z)))) (z)) (z)) (z)) (k1)
def i_isPair_l0 {β : Type} (z : β) (N : Nat) (h0 : List Int) (h1_0 : Int) (h1_1 : Nat → Int) (h1_2 : Nat → Int) : Nat → Int → β → β → β
  | 0, _, _, _ => z
  | m + 1, t12, k0, k1 => i_isPair_l0_s z N h0 h1_0 h1_1 h1_2 t12 (fun t12 => i_isPair_l0 z N h0 h1_0 h1_1 h1_2 m t12 k0 k1) k0 k1

/-- impl.isPair -/
def i_isPair {β : Type} (z : β) (N : Nat) (g_0 : Int) (g_1 : Nat → Int) (g_2 : Nat → Int) (h0 : List Int) (k0 : Int → β) : β :=
  i_IsGrid z N g_0 g_1 g_2 (fun q7 => cond (!q7) (k0 1) (i_isPair_l0 z N h0 g_0 g_1 g_2 N 0 (k0 2) (k0 0)))

/-- (impl.Grid).places, loop -/
def i_Grid_places_l0_s {β : Type} (z : β) (t9 : Int) (h0_0 : Int) (h0_1 : Nat → Int) (h0_2 : Nat → Int) (h1 : Nat → Int) (h2 : Nat → Int) (t10 : Int) (h3 : Nat → Int) (kn : Int → (Nat → Int) → β) (k0 : (Nat → Int) → β) : β :=
  cond (decide (t10 < t9)) (cond (decide (0 ≤ t10) && decide (t10 < (↑8 : Int))) (cond (t10.toNat.blt 8) (cond (decide (0 ≤ h1 t10.toNat) && decide (h1 t10.toNat < (↑8 : Int))) (cond ((h1 t10.toNat).toNat.blt 8) (cond (fits IntKind.i64 (t10 + 1)) (kn (t10 + 1) (upd h3 (h1 t10.toNat).toNat t10)) (z)) (z)) (z)) (z)) (z)) (k0 h3)
def i_Grid_places_l0 {β : Type} (z : β) (t9 : Int) (h0_0 : Int) (h0_1 : Nat → Int) (h0_2 : Nat → Int) (h1 : Nat → Int) (h2 : Nat → Int) : Nat → Int → (Nat → Int) → ((Nat → Int) → β) → β
  | 0, _, _, _ => z
  | m + 1, t10, h3, k0 => i_Grid_places_l0_s z t9 h0_0 h0_1 h0_2 h1 h2 t10 h3 (fun t10 h3 => i_Grid_places_l0 z t9 h0_0 h0_1 h0_2 h1 h2 m t10 h3 k0) k0

/-- (impl.Grid).places -/
def i_Grid_places {β : Type} (z : β) (N : Nat) (g_0 : Int) (g_1 : Nat → Int) (g_2 : Nat → Int) (rows : Nat → Int) (k0 : (Nat → Int) → β) : β :=
  i_Grid_n z N g_0 g_1 g_2 (i_Grid_places_l0 z g_0 g_0 g_1 g_2 rows (fun (x : Nat) => 0) N 0 (fun (x : Nat) => 0) (fun q7 => k0 q7))

/-- impl.areApart -/
def i_areApart {β : Type} (z : β) (N : Nat) (a : Int) (b : Int) (c : Int) (d : Int) (k0 : Bool → β) : β :=
  cond (a == c) (k0 false) (cond (a == d) (k0 false) (cond (b == c) (k0 false) (cond (b == d) (k0 false) (cond (decide ((bif decide (b < a) then b else a) < c)) (cond (decide ((bif decide (b < a) then b else a) < d)) (k0 (decide (c < bif decide (a < b) then b else a) == decide (d < bif decide (a < b) then b else a))) (k0 (decide (c < bif decide (a < b) then b else a) == false))) (cond (decide ((bif decide (b < a) then b else a) < d)) (k0 (false == decide (d < bif decide (a < b) then b else a))) (k0 true))))))

/-- (impl.Grid).canRows -/
def i_Grid_canRows {β : Type} (z : β) (N : Nat) (g_0 : Int) (g_1 : Nat → Int) (g_2 : Nat → Int) (r_ : Int) (k0 : Bool → β) : β :=
  i_Grid_places z N g_0 g_1 g_2 g_1 (fun q7 => i_Grid_places z N g_0 g_1 g_2 g_2 (fun q8 => cond (decide (0 ≤ r_) && decide (r_ < (↑8 : Int))) (cond (r_.toNat.blt 8) (cond (decide (0 ≤ r_) && decide (r_ < (↑8 : Int))) (cond (r_.toNat.blt 8) (cond (fits IntKind.i64 (r_ + 1)) (cond (decide (0 ≤ r_ + 1) && decide (r_ + 1 < (↑8 : Int))) (cond ((r_ + 1).toNat.blt 8) (cond (fits IntKind.i64 (r_ + 1)) (cond (decide (0 ≤ r_ + 1) && decide (r_ + 1 < (↑8 : Int))) (cond ((r_ + 1).toNat.blt 8) (i_areApart z N (q7 r_.toNat) (q8 r_.toNat) (q7 (r_ + 1).toNat) (q8 (r_ + 1).toNat) (fun q9 => k0 q9)) (z)) (z)) (z)) (z)) (z)) (z)) (z)) (z)) (z)) (z)))

/-- impl.CanExchangeRows -/
def i_CanExchangeRows {β : Type} (z : β) (N : Nat) (g_0 : Int) (g_1 : Nat → Int) (g_2 : Nat → Int) (r_ : Int) (k0 : Bool → Int → β) : β :=
  i_isPair z N g_0 g_1 g_2 ((List.replicate 1 0).set 0 r_) (fun q7 => cond (q7 != 0) (k0 false q7) (i_Grid_canRows z N g_0 g_1 g_2 r_ (fun q8 => k0 q8 0)))

/-- (impl.Grid).swapRows$1 -/
def i_Grid_swapRows_1 {β : Type} (z : β) (N : Nat) (i : Int) (row : Int) (h0 : Int) (k0 : Int → β) : β :=
  cond (row == h0) (cond (fits IntKind.i64 (h0 + 1)) (k0 (h0 + 1)) (z)) (cond (fits IntKind.i64 (h0 + 1)) (cond (row == h0 + 1) (k0 h0) (k0 row)) (z))

/-- (impl.Grid).led, loop -/
def i_Grid_led_l0_s5_s {β : Type} (z : β) (N : Nat) (t22 : Int) (h0 : Int) (h1_0 : Int) (h1_1 : Nat → Int) (h1_2 : Nat → Int) (h2_0 : Int) (h2_1 : Nat → Int) (h2_2 : Nat → Int) (h3_0 : Int) (t23 : Int) (h3_1 : Nat → Int) (h3_2 : Nat → Int) (kn : Int → (Nat → Int) → (Nat → Int) → β) (k0 : (Nat → Int) → (Nat → Int) → β) : β :=
  cond (decide (t23 < t22)) (cond (decide (0 ≤ t23) && decide (t23 < (↑8 : Int))) (cond (t23.toNat.blt 8) (i_Grid_swapRows_1 z N t23 (h1_1 t23.toNat) h0 (fun q16 => cond (decide (0 ≤ t23) && decide (t23 < (↑8 : Int))) (cond (t23.toNat.blt 8) (cond (decide (0 ≤ t23) && decide (t23 < (↑8 : Int))) (cond (t23.toNat.blt 8) (i_Grid_swapRows_1 z N t23 (h1_2 t23.toNat) h0 (fun q17 => cond (decide (0 ≤ t23) && decide (t23 < (↑8 : Int))) (cond (t23.toNat.blt 8) (cond (fits IntKind.i64 (t23 + 1)) (kn (t23 + 1) (upd h3_1 t23.toNat (wrapU IntKind.u8 q17)) (upd h3_2 t23.toNat (wrapU IntKind.u8 q16))) (z)) (z)) (z))) (z)) (z)) (z)) (z))) (z)) (z)) (k0 h3_1 h3_2)
def i_Grid_led_l0_s5 {β : Type} (z : β) (N : Nat) (t22 : Int) (h0 : Int) (h1_0 : Int) (h1_1 : Nat → Int) (h1_2 : Nat → Int) (h2_0 : Int) (h2_1 : Nat → Int) (h2_2 : Nat → Int) (h3_0 : Int) : Nat → Int → (Nat → Int) → (Nat → Int) → ((Nat → Int) → (Nat → Int) → β) → β
  | 0, _, _, _, _ => z
  | m + 1, t23, h3_1, h3_2, k0 => i_Grid_led_l0_s5_s z N t22 h0 h1_0 h1_1 h1_2 h2_0 h2_1 h2_2 h3_0 t23 h3_1 h3_2 (fun t23 h3_1 h3_2 => i_Grid_led_l0_s5 z N t22 h0 h1_0 h1_1 h1_2 h2_0 h2_1 h2_2 h3_0 m t23 h3_1 h3_2 k0) k0

/-- (impl.Grid).led, loop -/
def i_Grid_led_l0_s6_s {β : Type} (z : β) (N : Nat) (t22 : Int) (h0 : Int) (h1_0 : Int) (h1_1 : Nat → Int) (h1_2 : Nat → Int) (h2_0 : Int) (h2_1 : Nat → Int) (h2_2 : Nat → Int) (h3_0 : Int) (t23 : Int) (h3_1 : Nat → Int) (h3_2 : Nat → Int) (kn : Int → (Nat → Int) → (Nat → Int) → β) (k0 : (Nat → Int) → (Nat → Int) → β) : β :=
  cond (decide (t23 < t22)) (cond (decide (0 ≤ t23) && decide (t23 < (↑8 : Int))) (cond (t23.toNat.blt 8) (i_Grid_swapRows_1 z N t23 (h1_1 t23.toNat) h0 (fun q16 => cond (decide (0 ≤ t23) && decide (t23 < (↑8 : Int))) (cond (t23.toNat.blt 8) (cond (decide (0 ≤ t23) && decide (t23 < (↑8 : Int))) (cond (t23.toNat.blt 8) (i_Grid_swapRows_1 z N t23 (h1_2 t23.toNat) h0 (fun q17 => cond (decide (0 ≤ t23) && decide (t23 < (↑8 : Int))) (cond (t23.toNat.blt 8) (cond (fits IntKind.i64 (t23 + 1)) (kn (t23 + 1) (upd h3_1 t23.toNat (wrapU IntKind.u8 q16)) (upd h3_2 t23.toNat (wrapU IntKind.u8 q17))) (z)) (z)) (z))) (z)) (z)) (z)) (z))) (z)) (z)) (k0 h3_1 h3_2)
def i_Grid_led_l0_s6 {β : Type} (z : β) (N : Nat) (t22 : Int) (h0 : Int) (h1_0 : Int) (h1_1 : Nat → Int) (h1_2 : Nat → Int) (h2_0 : Int) (h2_1 : Nat → Int) (h2_2 : Nat → Int) (h3_0 : Int) : Nat → Int → (Nat → Int) → (Nat → Int) → ((Nat → Int) → (Nat → Int) → β) → β
  | 0, _, _, _, _ => z
  | m + 1, t23, h3_1, h3_2, k0 => i_Grid_led_l0_s6_s z N t22 h0 h1_0 h1_1 h1_2 h2_0 h2_1 h2_2 h3_0 t23 h3_1 h3_2 (fun t23 h3_1 h3_2 => i_Grid_led_l0_s6 z N t22 h0 h1_0 h1_1 h1_2 h2_0 h2_1 h2_2 h3_0 m t23 h3_1 h3_2 k0) k0

/-- (impl.Grid).led -/
def i_Grid_led_s3 {β : Type} (z : β) (N : Nat) (g_0 : Int) (g_1 : Nat → Int) (g_2 : Nat → Int) (exchanged : Bool) (h0 : Int) (k0 : (Nat → Int) → (Nat → Int) → β) : β :=
  cond (exchanged) (i_Grid_n z N g_0 g_1 g_2 (i_Grid_led_l0_s5 z N g_0 h0 g_0 g_1 g_2 0 (fun (x : Nat) => 0) (fun (x : Nat) => 0) g_0 N 0 (fun (x : Nat) => 0) (fun (x : Nat) => 0) (fun q8 q9 => k0 q8 q9))) (i_Grid_n z N g_0 g_1 g_2 (i_Grid_led_l0_s6 z N g_0 h0 g_0 g_1 g_2 0 (fun (x : Nat) => 0) (fun (x : Nat) => 0) g_0 N 0 (fun (x : Nat) => 0) (fun (x : Nat) => 0) (fun q8 q9 => k0 q8 q9)))

/-- (impl.Grid).swapRows -/
def i_Grid_swapRows {β : Type} (z : β) (N : Nat) (g_0 : Int) (g_1 : Nat → Int) (g_2 : Nat → Int) (r_ : Int) (k0 : (Nat → Int) → (Nat → Int) → β) : β :=
  i_Grid_led_s3 z N g_0 g_1 g_2 false r_ (fun q7 q8 => k0 q7 q8)

/-- impl.ExchangeRows -/
def i_ExchangeRows {β : Type} (z : β) (N : Nat) (g_0 : Int) (g_1 : Nat → Int) (g_2 : Nat → Int) (r_ : Int) (k0 : Int → (Nat → Int) → (Nat → Int) → Int → β) : β :=
  i_CanExchangeRows z N g_0 g_1 g_2 r_ (fun q7 q8 => cond (q8 != 0) (k0 0 (fun (x : Nat) => 0) (fun (x : Nat) => 0) q8) (cond (!q7) (k0 0 (fun (x : Nat) => 0) (fun (x : Nat) => 0) 5) (i_Grid_swapRows z N g_0 g_1 g_2 r_ (fun q9 q10 => k0 g_0 q9 q10 0))))

/-- laws.FnExactExchangeRows -/
def w_FnExactExchangeRows {β : Type} (z : β) (N : Nat) (aG_0 : Int) (aG_1 : Nat → Int) (aG_2 : Nat → Int) (aR : Int) (k0 : Bool → β) : β :=
  w_toGrid z N aG_0 aG_1 aG_2 (fun q7 q8 => s_ExchangeRows z N aG_0 q7 q8 aR (fun q9 q10 q11 q12 => w_toGrid z N aG_0 aG_1 aG_2 (fun q13 q14 => i_ExchangeRows z N aG_0 q13 q14 aR (fun q15 q16 q17 q18 => w_eqGrid z N q15 q16 q17 q9 q10 q11 (fun q19 => cond (!q19) (k0 false) (cond (q18 != q12) (k0 false) (k0 true)))))))
end Go.AM
