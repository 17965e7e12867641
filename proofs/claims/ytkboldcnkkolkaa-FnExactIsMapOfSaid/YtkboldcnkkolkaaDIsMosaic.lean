/- A part of a proof about the given program: an abstract machine, what the given functions come to, and plain laws. -/
import Derived.Test.YtkboldcnkkolkaaAMDef
set_option maxRecDepth 100000
namespace Go.AM
/-- laws.toByteA64, loop -/
def w_toByteA64_l0_s {β : Type} (z : β) (h0 : Nat → Int) (h1 : Nat → Int) (i : Int) (h2 : Nat → Int) (kn : Int → (Nat → Int) → β) (k0 : (Nat → Int) → β) : β :=
  cond (decide (i < 64)) (cond (decide (0 ≤ i) && decide (i < (↑64 : Int))) (cond (i.toNat.blt 64) (cond (decide (0 ≤ i) && decide (i < (↑64 : Int))) (cond (i.toNat.blt 64) (cond (fits IntKind.i64 (i + 1)) (kn (i + 1) (upd h2 i.toNat (h0 i.toNat))) (z)) (z)) (z)) (z)) (z)) (k0 h2)
def w_toByteA64_l0 {β : Type} (z : β) (h0 : Nat → Int) (h1 : Nat → Int) : Nat → Int → (Nat → Int) → ((Nat → Int) → β) → β
  | 0, _, _, _ => z
  | m + 1, i, h2, k0 => w_toByteA64_l0_s z h0 h1 i h2 (fun i h2 => w_toByteA64_l0 z h0 h1 m i h2 k0) k0

/-- laws.toByteA64 -/
def w_toByteA64 {β : Type} (z : β) (N : Nat) (a : Nat → Int) (k0 : (Nat → Int) → β) : β :=
  w_toByteA64_l0 z a (fun (x : Nat) => 0) N 0 (fun (x : Nat) => 0) (fun q4 => k0 q4)

/-- laws.toMosaic -/
def w_toMosaic {β : Type} (z : β) (N : Nat) (a_0 : Int) (a_1 : Nat → Int) (k0 : (Nat → Int) → β) : β :=
  w_toByteA64 z N a_1 (fun q5 => k0 q5)

/-- spec.l01In -/
def s_l01In {β : Type} (z : β) (N : Nat) (n : Int) (low : Int) (high : Int) (k0 : Bool → β) : β :=
  cond (decide (low ≤ n)) (k0 (decide (n ≤ high))) (k0 false)

/-- spec.l09Is, loop -/
def s_l09Is_l0_s {β : Type} (z : β) (h0_0 : Int) (h0_1 : Nat → Int) (k : Int) (kn : Int → β) (k0 : β) (k1 : β) : β :=
  cond (decide (k < 64)) (cond (decide (0 ≤ k) && decide (k < (↑64 : Int))) (cond (k.toNat.blt 64) (cond (decide (7 < h0_1 k.toNat)) (k0) (cond (fits IntKind.i64 (h0_0 * h0_0)) (cond (decide (h0_0 * h0_0 ≤ k)) (cond (decide (0 ≤ k) && decide (k < (↑64 : Int))) (cond (k.toNat.blt 64) (cond (h0_1 k.toNat != 0) (k0) (cond (fits IntKind.i64 (k + 1)) (kn (k + 1)) (z))) (z)) (z)) (cond (fits IntKind.i64 (k + 1)) (kn (k + 1)) (z))) (z))) (z)) (z)) (k1)
def s_l09Is_l0 {β : Type} (z : β) (h0_0 : Int) (h0_1 : Nat → Int) : Nat → Int → β → β → β
  | 0, _, _, _ => z
  | m + 1, k, k0, k1 => s_l09Is_l0_s z h0_0 h0_1 k (fun k => s_l09Is_l0 z h0_0 h0_1 m k k0 k1) k0 k1

/-- spec.l09Is -/
def s_l09Is {β : Type} (z : β) (N : Nat) (m_0 : Int) (m_1 : Nat → Int) (k0 : Bool → β) : β :=
  s_l01In z N m_0 2 8 (fun q5 => cond (!q5) (k0 false) (s_l09Is_l0 z m_0 m_1 N 0 (k0 false) (k0 true)))

/-- spec.IsMosaic -/
def s_IsMosaic {β : Type} (z : β) (N : Nat) (m_0 : Int) (m_1 : Nat → Int) (k0 : Bool → β) : β :=
  s_l09Is z N m_0 m_1 (fun q5 => k0 q5)

/-- impl.within -/
def i_within {β : Type} (z : β) (N : Nat) (x : Int) (low : Int) (high : Int) (k0 : Bool → β) : β :=
  cond (decide (low ≤ x)) (k0 (decide (x ≤ high))) (k0 false)

/-- impl.IsMosaic, loop -/
def i_IsMosaic_l0_s {β : Type} (z : β) (t10 : Nat → Int) (h0_0 : Int) (h0_1 : Nat → Int) (t11 : Int) (kn : Int → β) (k0 : β) (k1 : β) : β :=
  cond (decide (t11 < 64)) (cond (decide (0 ≤ t11) && decide (t11 < (↑64 : Int))) (cond (t11.toNat.blt 64) (cond (decide (8 ≤ t10 t11.toNat)) (k0) (cond (fits IntKind.i64 (h0_0 * h0_0)) (cond (decide (h0_0 * h0_0 ≤ t11)) (cond (t10 t11.toNat != 0) (k0) (cond (fits IntKind.i64 (t11 + 1)) (kn (t11 + 1)) (z))) (cond (fits IntKind.i64 (t11 + 1)) (kn (t11 + 1)) (z))) (z))) (z)) (z)) (k1)
def i_IsMosaic_l0 {β : Type} (z : β) (t10 : Nat → Int) (h0_0 : Int) (h0_1 : Nat → Int) : Nat → Int → β → β → β
  | 0, _, _, _ => z
  | m + 1, t11, k0, k1 => i_IsMosaic_l0_s z t10 h0_0 h0_1 t11 (fun t11 => i_IsMosaic_l0 z t10 h0_0 h0_1 m t11 k0 k1) k0 k1

/-- impl.IsMosaic -/
def i_IsMosaic {β : Type} (z : β) (N : Nat) (m_0 : Int) (m_1 : Nat → Int) (k0 : Bool → β) : β :=
  i_within z N m_0 2 8 (fun q5 => cond (!q5) (k0 false) (i_IsMosaic_l0 z m_1 m_0 m_1 N 0 (k0 false) (k0 true)))

/-- laws.FnExactIsMosaic -/
def w_FnExactIsMosaic {β : Type} (z : β) (N : Nat) (aM_0 : Int) (aM_1 : Nat → Int) (k0 : Bool → β) : β :=
  w_toMosaic z N aM_0 aM_1 (fun q5 => s_IsMosaic z N aM_0 q5 (fun q6 => w_toMosaic z N aM_0 aM_1 (fun q7 => i_IsMosaic z N aM_0 q7 (fun q8 => cond (q8 != q6) (k0 false) (k0 true)))))
end Go.AM
