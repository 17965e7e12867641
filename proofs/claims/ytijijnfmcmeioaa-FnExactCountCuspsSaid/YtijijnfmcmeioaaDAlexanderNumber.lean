/- A part of a proof about the given program: an abstract machine, what the given functions come to, and plain laws. -/
import Derived.Test.YtijijnfmcmeioaaDIsMosaic
import Derived.Test.YtijijnfmcmeioaaDLowerState
set_option maxRecDepth 100000
namespace Go.AM
/-- laws.toState, loop -/
def w_toState_l0_s {β : Type} (z : β) (h0 : Nat → Int) (h1 : Nat → Int) (i : Int) (h2 : Nat → Int) (kn : Int → (Nat → Int) → β) (k0 : (Nat → Int) → β) : β :=
  cond (decide (i < 8)) (cond (decide (0 ≤ i) && decide (i < (↑8 : Int))) (cond (i.toNat.blt 8) (cond (decide (0 ≤ i) && decide (i < (↑8 : Int))) (cond (i.toNat.blt 8) (cond (fits IntKind.i64 (i + 1)) (kn (i + 1) (upd h2 i.toNat (h0 i.toNat))) (z)) (z)) (z)) (z)) (z)) (k0 h2)
def w_toState_l0 {β : Type} (z : β) (h0 : Nat → Int) (h1 : Nat → Int) : Nat → Int → (Nat → Int) → ((Nat → Int) → β) → β
  | 0, _, _, _ => z
  | m + 1, i, h2, k0 => w_toState_l0_s z h0 h1 i h2 (fun i h2 => w_toState_l0 z h0 h1 m i h2 k0) k0

/-- laws.toState -/
def w_toState {β : Type} (z : β) (N : Nat) (a : Nat → Int) (k0 : (Nat → Int) → β) : β :=
  w_toState_l0 z a (fun (x : Nat) => 0) N 0 (fun (x : Nat) => 0) (fun q4 => k0 q4)

/-- spec.l05Is -/
def s_l05Is {β : Type} (z : β) (N : Nat) (g_0 : Int) (g_1 : Nat → Int) (g_2 : Nat → Int) (x : Nat → Int) (k0 : Bool → β) : β :=
  s_l01Is z N g_0 g_1 g_2 (fun q7 => cond (q7) (s_l01Perm z N x g_0 (fun q8 => k0 q8)) (k0 false))

/-- spec.l05Below, loop -/
def s_l05Below_l1_s {β : Type} (z : β) (n : Int) (more : Int) (other : Int) (i : Int) (h0 : Nat → Int) (h1 : Nat → Int) (count : Int) (k : Int) (kn : Int → Int → β) (k0 : Int → β) : β :=
  cond (decide (k < n)) (cond (fits IntKind.i64 (2 * i)) (cond (fits IntKind.i64 (2 * i + more)) (cond (fits IntKind.i64 (2 * k)) (cond (fits IntKind.i64 (2 * k + other)) (cond (decide (2 * i + more < 2 * k + other)) (cond (decide (0 ≤ i) && decide (i < (↑8 : Int))) (cond (i.toNat.blt 8) (cond (fits IntKind.i64 (2 * h0 i.toNat)) (cond (fits IntKind.i64 (2 * h0 i.toNat + more)) (cond (decide (0 ≤ k) && decide (k < (↑8 : Int))) (cond (k.toNat.blt 8) (cond (fits IntKind.i64 (2 * h1 k.toNat)) (cond (fits IntKind.i64 (2 * h1 k.toNat + other)) (cond (decide (2 * h0 i.toNat + more < 2 * h1 k.toNat + other)) (cond (fits IntKind.i64 (count + 1)) (cond (fits IntKind.i64 (k + 1)) (kn (count + 1) (k + 1)) (z)) (z)) (cond (fits IntKind.i64 (k + 1)) (kn count (k + 1)) (z))) (z)) (z)) (z)) (z)) (z)) (z)) (z)) (z)) (cond (fits IntKind.i64 (k + 1)) (kn count (k + 1)) (z))) (z)) (z)) (z)) (z)) (k0 count)
def s_l05Below_l1 {β : Type} (z : β) (n : Int) (more : Int) (other : Int) (i : Int) (h0 : Nat → Int) (h1 : Nat → Int) : Nat → Int → Int → (Int → β) → β
  | 0, _, _, _ => z
  | m + 1, count, k, k0 => s_l05Below_l1_s z n more other i h0 h1 count k (fun count k => s_l05Below_l1 z n more other i h0 h1 m count k k0) k0

/-- spec.l05Below, loop -/
def s_l05Below_l0_s {β : Type} (z : β) (N : Nat) (n : Int) (more : Int) (other : Int) (h0 : Nat → Int) (h1 : Nat → Int) (count : Int) (i : Int) (kn : Int → Int → β) (k0 : Int → β) : β :=
  cond (decide (i < n)) (s_l05Below_l1 z n more other i h0 h1 N count 0 (fun q11 => cond (fits IntKind.i64 (i + 1)) (kn q11 (i + 1)) (z))) (k0 count)
def s_l05Below_l0 {β : Type} (z : β) (N : Nat) (n : Int) (more : Int) (other : Int) (h0 : Nat → Int) (h1 : Nat → Int) : Nat → Int → Int → (Int → β) → β
  | 0, _, _, _ => z
  | m + 1, count, i, k0 => s_l05Below_l0_s z N n more other h0 h1 count i (fun count i => s_l05Below_l0 z N n more other h0 h1 m count i k0) k0

/-- spec.l05Below -/
def s_l05Below {β : Type} (z : β) (N : Nat) (n : Int) (p : Nat → Int) (q : Nat → Int) (more : Int) (other : Int) (k0 : Int → β) : β :=
  s_l05Below_l0 z N n more other p q N 0 0 (fun q8 => k0 q8)

/-- spec.l05Maslov -/
def s_l05Maslov {β : Type} (z : β) (N : Nat) (g_0 : Int) (g_1 : Nat → Int) (g_2 : Nat → Int) (x : Nat → Int) (marks : Nat → Int) (k0 : Int → β) : β :=
  s_l05Below z N g_0 x x 0 0 (fun q8 => s_l05Below z N g_0 x marks 0 1 (fun q9 => cond (fits IntKind.i64 (q8 - q9)) (s_l05Below z N g_0 marks x 1 0 (fun q10 => cond (fits IntKind.i64 (q8 - q9 - q10)) (s_l05Below z N g_0 marks marks 1 1 (fun q11 => cond (fits IntKind.i64 (q8 - q9 - q10 + q11)) (cond (fits IntKind.i64 (q8 - q9 - q10 + q11 + 1)) (k0 (q8 - q9 - q10 + q11 + 1)) (z)) (z))) (z))) (z)))

/-- spec.l05Alexander -/
def s_l05Alexander {β : Type} (z : β) (N : Nat) (g_0 : Int) (g_1 : Nat → Int) (g_2 : Nat → Int) (x : Nat → Int) (k0 : Int → β) : β :=
  s_l05Maslov z N g_0 g_1 g_2 x g_2 (fun q7 => s_l05Maslov z N g_0 g_1 g_2 x g_1 (fun q8 => cond (fits IntKind.i64 (q7 - q8)) (cond (fits IntKind.i64 (q7 - q8 - g_0)) (cond (fits IntKind.i64 (q7 - q8 - g_0 + 1)) (k0 (q7 - q8 - g_0 + 1)) (z)) (z)) (z)))

/-- spec.AlexanderNumber -/
def s_AlexanderNumber {β : Type} (z : β) (N : Nat) (g_0 : Int) (g_1 : Nat → Int) (g_2 : Nat → Int) (x : Nat → Int) (k0 : Int → Int → β) : β :=
  s_l05Is z N g_0 g_1 g_2 x (fun q7 => cond (!q7) (k0 0 1) (s_l05Alexander z N g_0 g_1 g_2 x (fun q8 => k0 q8 0)))

/-- impl.isOrder, loop -/
def i_isOrder_l0_s4_s {β : Type} (z : β) (n : Int) (h0 : Nat → Int) (seen : Int) (t10 : Int) (kn : Int → Int → β) (k0 : β) (k1 : Int → β) : β :=
  cond (decide (t10 < 8)) (cond (decide (0 ≤ t10) && decide (t10 < (↑8 : Int))) (cond (t10.toNat.blt 8) (cond (decide (n ≤ t10)) (cond (h0 t10.toNat != 0) (k0) (cond (decide (n ≤ h0 t10.toNat)) (k0) (cond (decide (t10 < n)) (cond (decide (0 ≤ h0 t10.toNat) && decide (h0 t10.toNat < (↑64 : Int))) (cond (fits IntKind.i64 (shlI 1 (h0 t10.toNat))) (cond (fits IntKind.i64 (t10 + 1)) (kn (bitI BinOp.or IntKind.i64 seen (shlI 1 (h0 t10.toNat))) (t10 + 1)) (z)) (z)) (z)) (cond (fits IntKind.i64 (t10 + 1)) (kn seen (t10 + 1)) (z))))) (cond (decide (n ≤ h0 t10.toNat)) (k0) (cond (decide (t10 < n)) (cond (decide (0 ≤ h0 t10.toNat) && decide (h0 t10.toNat < (↑64 : Int))) (cond (fits IntKind.i64 (shlI 1 (h0 t10.toNat))) (cond (fits IntKind.i64 (t10 + 1)) (kn (bitI BinOp.or IntKind.i64 seen (shlI 1 (h0 t10.toNat))) (t10 + 1)) (z)) (z)) (z)) (cond (fits IntKind.i64 (t10 + 1)) (kn seen (t10 + 1)) (z))))) (z)) (z)) (k1 seen)
def i_isOrder_l0_s4 {β : Type} (z : β) (n : Int) (h0 : Nat → Int) : Nat → Int → Int → β → (Int → β) → β
  | 0, _, _, _, _ => z
  | m + 1, seen, t10, k0, k1 => i_isOrder_l0_s4_s z n h0 seen t10 (fun seen t10 => i_isOrder_l0_s4 z n h0 m seen t10 k0 k1) k0 k1

/-- impl.isOrder -/
def i_isOrder_s4 {β : Type} (z : β) (N : Nat) (n : Int) (h0 : Nat → Int) (k0 : Bool → β) : β :=
  i_isOrder_l0_s4 z n h0 N 0 0 (k0 false) (fun q5 => cond (decide (0 ≤ n) && decide (n < (↑64 : Int))) (cond (fits IntKind.i64 (shlI 1 n)) (cond (fits IntKind.i64 (shlI 1 n - 1)) (k0 (q5 == shlI 1 n - 1)) (z)) (z)) (z))

/-- (impl.Grid).isState -/
def i_Grid_isState {β : Type} (z : β) (N : Nat) (g_0 : Int) (g_1 : Nat → Int) (g_2 : Nat → Int) (x : Nat → Int) (k0 : Bool → β) : β :=
  i_Grid_n z N g_0 g_1 g_2 (i_isOrder_s4 z N g_0 x (fun q7 => k0 q7))

/-- impl.IsState -/
def i_IsState {β : Type} (z : β) (N : Nat) (g_0 : Int) (g_1 : Nat → Int) (g_2 : Nat → Int) (x : Nat → Int) (k0 : Bool → β) : β :=
  i_IsGrid z N g_0 g_1 g_2 (fun q7 => cond (q7) (i_Grid_isState z N g_0 g_1 g_2 x (fun q8 => k0 q8)) (k0 false))

/-- impl.pairsBelow$1 -/
def i_pairsBelow_1 {β : Type} (z : β) (N : Nat) (k : Int) (half : Bool) (k0 : Int → β) : β :=
  cond (half) (cond (fits IntKind.i64 (2 * k)) (cond (fits IntKind.i64 (2 * k + 1)) (k0 (2 * k + 1)) (z)) (z)) (cond (fits IntKind.i64 (2 * k)) (k0 (2 * k)) (z))

/-- impl.pairsBelow, loop -/
def i_pairsBelow_l1_s {β : Type} (z : β) (N : Nat) (n : Int) (shifted : Bool) (other : Bool) (i : Int) (t15 : Int) (t16 : Int) (t19 : Int) (h0 : Nat → Int) (h1 : Nat → Int) (many : Int) (t20 : Int) (kn : Int → Int → β) (k0 : Int → β) : β :=
  cond (decide (t20 < t19)) (i_pairsBelow_1 z N i shifted (fun q15 => i_pairsBelow_1 z N t20 other (fun q16 => cond (decide (q15 < q16)) (cond (decide (0 ≤ i) && decide (i < (↑8 : Int))) (cond (i.toNat.blt 8) (i_pairsBelow_1 z N (h0 i.toNat) shifted (fun q17 => cond (decide (0 ≤ t20) && decide (t20 < (↑8 : Int))) (cond (t20.toNat.blt 8) (i_pairsBelow_1 z N (h1 t20.toNat) other (fun q18 => cond (decide (q17 < q18)) (cond (fits IntKind.i64 (many + 1)) (cond (fits IntKind.i64 (t20 + 1)) (kn (many + 1) (t20 + 1)) (z)) (z)) (cond (fits IntKind.i64 (t20 + 1)) (kn many (t20 + 1)) (z)))) (z)) (z))) (z)) (z)) (cond (fits IntKind.i64 (t20 + 1)) (kn many (t20 + 1)) (z))))) (k0 many)
def i_pairsBelow_l1 {β : Type} (z : β) (N : Nat) (n : Int) (shifted : Bool) (other : Bool) (i : Int) (t15 : Int) (t16 : Int) (t19 : Int) (h0 : Nat → Int) (h1 : Nat → Int) : Nat → Int → Int → (Int → β) → β
  | 0, _, _, _ => z
  | m + 1, many, t20, k0 => i_pairsBelow_l1_s z N n shifted other i t15 t16 t19 h0 h1 many t20 (fun many t20 => i_pairsBelow_l1 z N n shifted other i t15 t16 t19 h0 h1 m many t20 k0) k0

/-- impl.pairsBelow, loop -/
def i_pairsBelow_l0_s {β : Type} (z : β) (N : Nat) (n : Int) (shifted : Bool) (other : Bool) (t15 : Int) (h0 : Nat → Int) (h1 : Nat → Int) (many : Int) (t16 : Int) (kn : Int → Int → β) (k0 : Int → β) : β :=
  cond (decide (t16 < t15)) (i_pairsBelow_l1 z N n shifted other t16 t15 t16 n h0 h1 N many 0 (fun q12 => cond (fits IntKind.i64 (t16 + 1)) (kn q12 (t16 + 1)) (z))) (k0 many)
def i_pairsBelow_l0 {β : Type} (z : β) (N : Nat) (n : Int) (shifted : Bool) (other : Bool) (t15 : Int) (h0 : Nat → Int) (h1 : Nat → Int) : Nat → Int → Int → (Int → β) → β
  | 0, _, _, _ => z
  | m + 1, many, t16, k0 => i_pairsBelow_l0_s z N n shifted other t15 h0 h1 many t16 (fun many t16 => i_pairsBelow_l0 z N n shifted other t15 h0 h1 m many t16 k0) k0

/-- impl.pairsBelow -/
def i_pairsBelow {β : Type} (z : β) (N : Nat) (n : Int) (p : Nat → Int) (shifted : Bool) (q : Nat → Int) (other : Bool) (k0 : Int → β) : β :=
  i_pairsBelow_l0 z N n shifted other n p q N 0 0 (fun q8 => k0 q8)

/-- (impl.Grid).maslov -/
def i_Grid_maslov {β : Type} (z : β) (N : Nat) (g_0 : Int) (g_1 : Nat → Int) (g_2 : Nat → Int) (x : Nat → Int) (marks : Nat → Int) (k0 : Int → β) : β :=
  i_Grid_n z N g_0 g_1 g_2 (i_pairsBelow z N g_0 x false x false (fun q8 => i_pairsBelow z N g_0 x false marks true (fun q9 => cond (fits IntKind.i64 (q8 - q9)) (i_pairsBelow z N g_0 marks true x false (fun q10 => cond (fits IntKind.i64 (q8 - q9 - q10)) (i_pairsBelow z N g_0 marks true marks true (fun q11 => cond (fits IntKind.i64 (q8 - q9 - q10 + q11)) (cond (fits IntKind.i64 (q8 - q9 - q10 + q11 + 1)) (k0 (q8 - q9 - q10 + q11 + 1)) (z)) (z))) (z))) (z))))

/-- (impl.Grid).gradeOf -/
def i_Grid_gradeOf {β : Type} (z : β) (N : Nat) (g_0 : Int) (g_1 : Nat → Int) (g_2 : Nat → Int) (x : Nat → Int) (k0 : (Nat → Int) → β) : β :=
  i_Grid_maslov z N g_0 g_1 g_2 x g_2 (fun q7 => i_Grid_maslov z N g_0 g_1 g_2 x g_1 (fun q8 => cond (fits IntKind.i64 (q7 - q8)) (cond (fits IntKind.i64 (q7 - q8 - g_0)) (cond (fits IntKind.i64 (q7 - q8 - g_0 + 1)) (k0 (upd (upd (fun (x : Nat) => 0) 0 (q7 - q8 - g_0 + 1)) 1 q7)) (z)) (z)) (z)))

/-- impl.AlexanderNumber$1 -/
def i_AlexanderNumber_1 {β : Type} (z : β) (N : Nat) (g_0 : Int) (g_1 : Nat → Int) (g_2 : Nat → Int) (x : Nat → Int) (k0 : Int → β) : β :=
  i_Grid_gradeOf z N g_0 g_1 g_2 x (fun q7 => k0 (q7 0))

/-- impl.stated[int64] -/
def i_stated_int64 {β : Type} (z : β) (N : Nat) (g_0 : Int) (g_1 : Nat → Int) (g_2 : Nat → Int) (x : Nat → Int) (k0 : Int → Int → β) : β :=
  i_IsState z N g_0 g_1 g_2 x (fun q7 => cond (!q7) (k0 0 1) (i_AlexanderNumber_1 z N g_0 g_1 g_2 x (fun q8 => k0 q8 0)))

/-- impl.AlexanderNumber -/
def i_AlexanderNumber {β : Type} (z : β) (N : Nat) (g_0 : Int) (g_1 : Nat → Int) (g_2 : Nat → Int) (x : Nat → Int) (k0 : Int → Int → β) : β :=
  i_stated_int64 z N g_0 g_1 g_2 x (fun q7 q8 => k0 q7 q8)

/-- laws.FnExactAlexanderNumber -/
def w_FnExactAlexanderNumber {β : Type} (z : β) (N : Nat) (aG_0 : Int) (aG_1 : Nat → Int) (aG_2 : Nat → Int) (aX : Nat → Int) (k0 : Bool → β) : β :=
  w_toGrid z N aG_0 aG_1 aG_2 (fun q7 q8 => w_toState z N aX (fun q9 => s_AlexanderNumber z N aG_0 q7 q8 q9 (fun q10 q11 => w_toGrid z N aG_0 aG_1 aG_2 (fun q12 q13 => w_toState z N aX (fun q14 => i_AlexanderNumber z N aG_0 q12 q13 q14 (fun q15 q16 => cond (q15 != q10) (k0 false) (cond (q16 != q11) (k0 false) (k0 true))))))))
end Go.AM
