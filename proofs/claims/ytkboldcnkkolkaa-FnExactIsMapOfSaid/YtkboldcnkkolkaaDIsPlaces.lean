/- A part of a proof about the given program: an abstract machine, what the given functions come to, and plain laws. -/
import Derived.Test.YtkboldcnkkolkaaDIsMosaic
set_option maxRecDepth 100000
namespace Go.AM
/-- laws.toPlaces, loop -/
def w_toPlaces_l0_s {β : Type} (z : β) (h0 : Nat → Int) (h1 : Nat → Int) (i : Int) (h2 : Nat → Int) (kn : Int → (Nat → Int) → β) (k0 : (Nat → Int) → β) : β :=
  cond (decide (i < 4)) (cond (decide (0 ≤ i) && decide (i < (↑4 : Int))) (cond (i.toNat.blt 4) (cond (decide (0 ≤ i) && decide (i < (↑4 : Int))) (cond (i.toNat.blt 4) (cond (fits IntKind.i64 (i + 1)) (kn (i + 1) (upd h2 i.toNat (h0 i.toNat))) (z)) (z)) (z)) (z)) (z)) (k0 h2)
def w_toPlaces_l0 {β : Type} (z : β) (h0 : Nat → Int) (h1 : Nat → Int) : Nat → Int → (Nat → Int) → ((Nat → Int) → β) → β
  | 0, _, _, _ => z
  | m + 1, i, h2, k0 => w_toPlaces_l0_s z h0 h1 i h2 (fun i h2 => w_toPlaces_l0 z h0 h1 m i h2 k0) k0

/-- laws.toPlaces -/
def w_toPlaces {β : Type} (z : β) (N : Nat) (a : Nat → Int) (k0 : (Nat → Int) → β) : β :=
  w_toPlaces_l0 z a (fun (x : Nat) => 0) N 0 (fun (x : Nat) => 0) (fun q4 => k0 q4)

/-- spec.l08Is, loop -/
def s_l08Is_l0_s {β : Type} (z : β) (k : Int) (h0 : Nat → Int) (x : Int) (h1 : Nat → Bool) (kn : Int → (Nat → Bool) → β) (k0 : (Nat → Bool) → β) (k1 : (Nat → Bool) → β) : β :=
  cond (decide (x < 4)) (cond (decide (k ≤ x)) (cond (decide (0 ≤ x) && decide (x < (↑4 : Int))) (cond (x.toNat.blt 4) (cond (h0 x.toNat != 0) (k0 h1) (cond (fits IntKind.i64 (x + 1)) (kn (x + 1) h1) (z))) (z)) (z)) (cond (decide (0 ≤ x) && decide (x < (↑4 : Int))) (cond (x.toNat.blt 4) (cond (decide (k ≤ h0 x.toNat)) (k0 h1) (cond (decide (0 ≤ x) && decide (x < (↑4 : Int))) (cond (x.toNat.blt 4) (cond (decide (0 ≤ h0 x.toNat) && decide (h0 x.toNat < (↑4 : Int))) (cond ((h0 x.toNat).toNat.blt 4) (cond (h1 (h0 x.toNat).toNat) (k0 h1) (cond (decide (0 ≤ x) && decide (x < (↑4 : Int))) (cond (x.toNat.blt 4) (cond (decide (0 ≤ h0 x.toNat) && decide (h0 x.toNat < (↑4 : Int))) (cond ((h0 x.toNat).toNat.blt 4) (cond (fits IntKind.i64 (x + 1)) (kn (x + 1) (upd h1 (h0 x.toNat).toNat true)) (z)) (z)) (z)) (z)) (z))) (z)) (z)) (z)) (z))) (z)) (z))) (k1 h1)
def s_l08Is_l0 {β : Type} (z : β) (k : Int) (h0 : Nat → Int) : Nat → Int → (Nat → Bool) → ((Nat → Bool) → β) → ((Nat → Bool) → β) → β
  | 0, _, _, _, _ => z
  | m + 1, x, h1, k0, k1 => s_l08Is_l0_s z k h0 x h1 (fun x h1 => s_l08Is_l0 z k h0 m x h1 k0 k1) k0 k1

/-- spec.l08Is -/
def s_l08Is {β : Type} (z : β) (N : Nat) (q : Nat → Int) (k : Int) (k0 : Bool → β) : β :=
  s_l01In z N k 1 4 (fun q5 => cond (!q5) (k0 false) (s_l08Is_l0 z k q N 0 (fun (x : Nat) => false) (fun q6 => k0 false) (fun q6 => k0 true)))

/-- spec.IsPlaces -/
def s_IsPlaces {β : Type} (z : β) (N : Nat) (q : Nat → Int) (k : Int) (k0 : Bool → β) : β :=
  s_l08Is z N q k (fun q5 => k0 q5)

/-- impl.isOrder, loop -/
def i_isOrder_l0_s {β : Type} (z : β) (n : Int) (h0 : Nat → Int) (seen : Int) (t10 : Int) (kn : Int → Int → β) (k0 : β) (k1 : Int → β) : β :=
  cond (decide (t10 < 4)) (cond (decide (0 ≤ t10) && decide (t10 < (↑4 : Int))) (cond (t10.toNat.blt 4) (cond (decide (n ≤ t10)) (cond (h0 t10.toNat != 0) (k0) (cond (decide (n ≤ h0 t10.toNat)) (k0) (cond (decide (t10 < n)) (cond (decide (0 ≤ h0 t10.toNat) && decide (h0 t10.toNat < (↑64 : Int))) (cond (fits IntKind.i64 (shlI 1 (h0 t10.toNat))) (cond (fits IntKind.i64 (t10 + 1)) (kn (bitI BinOp.or IntKind.i64 seen (shlI 1 (h0 t10.toNat))) (t10 + 1)) (z)) (z)) (z)) (cond (fits IntKind.i64 (t10 + 1)) (kn seen (t10 + 1)) (z))))) (cond (decide (n ≤ h0 t10.toNat)) (k0) (cond (decide (t10 < n)) (cond (decide (0 ≤ h0 t10.toNat) && decide (h0 t10.toNat < (↑64 : Int))) (cond (fits IntKind.i64 (shlI 1 (h0 t10.toNat))) (cond (fits IntKind.i64 (t10 + 1)) (kn (bitI BinOp.or IntKind.i64 seen (shlI 1 (h0 t10.toNat))) (t10 + 1)) (z)) (z)) (z)) (cond (fits IntKind.i64 (t10 + 1)) (kn seen (t10 + 1)) (z))))) (z)) (z)) (k1 seen)
def i_isOrder_l0 {β : Type} (z : β) (n : Int) (h0 : Nat → Int) : Nat → Int → Int → β → (Int → β) → β
  | 0, _, _, _, _ => z
  | m + 1, seen, t10, k0, k1 => i_isOrder_l0_s z n h0 seen t10 (fun seen t10 => i_isOrder_l0 z n h0 m seen t10 k0 k1) k0 k1

/-- impl.isOrder -/
def i_isOrder {β : Type} (z : β) (N : Nat) (n : Int) (h0 : Nat → Int) (k0 : Bool → β) : β :=
  i_isOrder_l0 z n h0 N 0 0 (k0 false) (fun q5 => cond (decide (0 ≤ n) && decide (n < (↑64 : Int))) (cond (fits IntKind.i64 (shlI 1 n)) (cond (fits IntKind.i64 (shlI 1 n - 1)) (k0 (q5 == shlI 1 n - 1)) (z)) (z)) (z))

/-- impl.IsPlaces -/
def i_IsPlaces {β : Type} (z : β) (N : Nat) (q : Nat → Int) (k : Int) (k0 : Bool → β) : β :=
  i_within z N k 1 4 (fun q5 => cond (q5) (i_isOrder z N k q (fun q6 => k0 q6)) (k0 false))

/-- laws.FnExactIsPlaces -/
def w_FnExactIsPlaces {β : Type} (z : β) (N : Nat) (aQ : Nat → Int) (aK : Int) (k0 : Bool → β) : β :=
  w_toPlaces z N aQ (fun q5 => s_IsPlaces z N q5 aK (fun q6 => w_toPlaces z N aQ (fun q7 => i_IsPlaces z N q7 aK (fun q8 => cond (q8 != q6) (k0 false) (k0 true)))))
end Go.AM
