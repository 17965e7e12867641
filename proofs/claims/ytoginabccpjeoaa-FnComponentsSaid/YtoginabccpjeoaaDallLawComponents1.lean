/- A part of a proof about the given program: an abstract machine, what the given functions come to, and plain laws. -/
import Derived.Test.YtoginabccpjeoaaMachA
set_option linter.unusedVariables false
set_option linter.unusedSimpArgs false
set_option maxRecDepth 100000
namespace Go.AM
def q000 {β : Type} (z : β) (N : Nat) (n low high : Int) (k0 : Bool -> β) : β :=
  cond (decide (low <= n)) (k0 (decide (n <= high))) (k0 false)
def q001 {β : Type} (z : β) (N : Nat) (x low high : Int) (k0 : Bool -> β) : β :=
  cond (decide (low <= x)) (k0 (decide (x <= high))) (k0 false)
end Go.AM
set_option maxRecDepth 100000
namespace Go.AM
def q002 {β : Type} (z : β) (n : Int) (h0 : NI) (i : Int) (h1 : Nat -> Bool) (kn : Int -> (Nat -> Bool) -> β) (k0 k1 : (Nat -> Bool) -> β) : β :=
  cond (decide (i < 8)) (cond (decide (n <= i)) (cond (decide (0 <= i) && decide (i < (↑8 : Int))) (cond (i.toNat.blt 8) (cond (h0 i.toNat != 0) (k0 h1) (cond (fits .i64 (i + 1)) (kn (i + 1) h1) (z))) (z)) (z)) (cond (decide (0 <= i) && decide (i < (↑8 : Int))) (cond (i.toNat.blt 8) (cond (decide (n <= h0 i.toNat)) (k0 h1) (cond (decide (0 <= i) && decide (i < (↑8 : Int))) (cond (i.toNat.blt 8) (cond (decide (0 <= h0 i.toNat) && decide (h0 i.toNat < (↑8 : Int))) (cond ((h0 i.toNat).toNat.blt 8) (cond (h1 (h0 i.toNat).toNat) (k0 h1) (cond (decide (0 <= i) && decide (i < (↑8 : Int))) (cond (i.toNat.blt 8) (cond (decide (0 <= h0 i.toNat) && decide (h0 i.toNat < (↑8 : Int))) (cond ((h0 i.toNat).toNat.blt 8) (cond (fits .i64 (i + 1)) (kn (i + 1) (upd h1 (h0 i.toNat).toNat true)) (z)) (z)) (z)) (z)) (z))) (z)) (z)) (z)) (z))) (z)) (z))) (k1 h1)
def q003 {β : Type} (z : β) (n : Int) (h0 : NI) : Nat -> Int -> (Nat -> Bool) -> ((Nat -> Bool) -> β) -> ((Nat -> Bool) -> β) -> β
  | 0, _, _, _, _ => z
  | m + 1, i, h1, k0, k1 => q002 z n h0 i h1 (fun i h1 => q003 z n h0 m i h1 k0 k1) k0 k1
def q004 {β : Type} (z : β) (N : Nat) (list : NI) (n : Int) (k0 : Bool -> β) : β :=
  q003 z n list N 0 (fun (x : Nat) => false) (fun q5 => k0 false) (fun q5 => k0 true)
def q005 {β : Type} (z : β) (h0_0 : Int) (h0_1 h0_2 : NI) (i : Int) (kn : Int -> β) (k0 k1 : β) : β :=
  cond (decide (i < h0_0)) (cond (decide (0 <= i) && decide (i < (↑8 : Int))) (cond (i.toNat.blt 8) (cond (decide (0 <= i) && decide (i < (↑8 : Int))) (cond (i.toNat.blt 8) (cond (h0_1 i.toNat == h0_2 i.toNat) (k0) (cond (fits .i64 (i + 1)) (kn (i + 1)) (z))) (z)) (z)) (z)) (z)) (k1)
def q006 {β : Type} (z : β) (h0_0 : Int) (h0_1 h0_2 : NI) : Nat -> Int -> β -> β -> β
  | 0, _, _, _ => z
  | m + 1, i, k0, k1 => q005 z h0_0 h0_1 h0_2 i (fun i => q006 z h0_0 h0_1 h0_2 m i k0 k1) k0 k1
def q007 {β : Type} (z : β) (N : Nat) (g_0 : Int) (g_1 g_2 : NI) (k0 : Bool -> β) : β :=
  q000 z N g_0 2 8 (fun q6 => cond (!q6) (k0 false) (q004 z N g_1 g_0 (fun q7 => cond (!q7) (k0 false) (q004 z N g_2 g_0 (fun q8 => cond (!q8) (k0 false) (q006 z g_0 g_1 g_2 N 0 (k0 false) (k0 true)))))))
def q008 {β : Type} (z : β) (N : Nat) (g_0 : Int) (g_1 g_2 : NI) (k0 : β) : β :=
  k0
def q009 {β : Type} (z : β) (n h0_0 : Int) (h0_1 h0_2 : NI) (seen t10 : Int) (kn : Int -> Int -> β) (k0 : β) (k1 : Int -> β) : β :=
  cond (decide (t10 < 8)) (cond (decide (0 <= t10) && decide (t10 < (↑8 : Int))) (cond (t10.toNat.blt 8) (cond (decide (n <= t10)) (cond (h0_1 t10.toNat != 0) (k0) (cond (decide (n <= h0_1 t10.toNat)) (k0) (cond (decide (t10 < n)) (cond (decide (0 <= h0_1 t10.toNat) && decide (h0_1 t10.toNat < (↑64 : Int))) (cond (fits .i64 (shlI 1 (h0_1 t10.toNat))) (cond (fits .i64 (t10 + 1)) (kn (bitI BinOp.or IntKind.i64 seen (shlI 1 (h0_1 t10.toNat))) (t10 + 1)) (z)) (z)) (z)) (cond (fits .i64 (t10 + 1)) (kn seen (t10 + 1)) (z))))) (cond (decide (n <= h0_1 t10.toNat)) (k0) (cond (decide (t10 < n)) (cond (decide (0 <= h0_1 t10.toNat) && decide (h0_1 t10.toNat < (↑64 : Int))) (cond (fits .i64 (shlI 1 (h0_1 t10.toNat))) (cond (fits .i64 (t10 + 1)) (kn (bitI BinOp.or IntKind.i64 seen (shlI 1 (h0_1 t10.toNat))) (t10 + 1)) (z)) (z)) (z)) (cond (fits .i64 (t10 + 1)) (kn seen (t10 + 1)) (z))))) (z)) (z)) (k1 seen)
def q00a {β : Type} (z : β) (n h0_0 : Int) (h0_1 h0_2 : NI) : Nat -> Int -> Int -> β -> (Int -> β) -> β
  | 0, _, _, _, _ => z
  | m + 1, seen, t10, k0, k1 => q009 z n h0_0 h0_1 h0_2 seen t10 (fun seen t10 => q00a z n h0_0 h0_1 h0_2 m seen t10 k0 k1) k0 k1
def q00b {β : Type} (z : β) (N : Nat) (n h0_0 : Int) (h0_1 h0_2 : NI) (k0 : Bool -> β) : β :=
  q00a z n h0_0 h0_1 h0_2 N 0 0 (k0 false) (fun q7 => cond (decide (0 <= n) && decide (n < (↑64 : Int))) (cond (fits .i64 (shlI 1 n)) (cond (fits .i64 (shlI 1 n - 1)) (k0 (q7 == shlI 1 n - 1)) (z)) (z)) (z))
def q00c {β : Type} (z : β) (n h0_0 : Int) (h0_1 h0_2 : NI) (seen t10 : Int) (kn : Int -> Int -> β) (k0 : β) (k1 : Int -> β) : β :=
  cond (decide (t10 < 8)) (cond (decide (0 <= t10) && decide (t10 < (↑8 : Int))) (cond (t10.toNat.blt 8) (cond (decide (n <= t10)) (cond (h0_2 t10.toNat != 0) (k0) (cond (decide (n <= h0_2 t10.toNat)) (k0) (cond (decide (t10 < n)) (cond (decide (0 <= h0_2 t10.toNat) && decide (h0_2 t10.toNat < (↑64 : Int))) (cond (fits .i64 (shlI 1 (h0_2 t10.toNat))) (cond (fits .i64 (t10 + 1)) (kn (bitI BinOp.or IntKind.i64 seen (shlI 1 (h0_2 t10.toNat))) (t10 + 1)) (z)) (z)) (z)) (cond (fits .i64 (t10 + 1)) (kn seen (t10 + 1)) (z))))) (cond (decide (n <= h0_2 t10.toNat)) (k0) (cond (decide (t10 < n)) (cond (decide (0 <= h0_2 t10.toNat) && decide (h0_2 t10.toNat < (↑64 : Int))) (cond (fits .i64 (shlI 1 (h0_2 t10.toNat))) (cond (fits .i64 (t10 + 1)) (kn (bitI BinOp.or IntKind.i64 seen (shlI 1 (h0_2 t10.toNat))) (t10 + 1)) (z)) (z)) (z)) (cond (fits .i64 (t10 + 1)) (kn seen (t10 + 1)) (z))))) (z)) (z)) (k1 seen)
def q00d {β : Type} (z : β) (n h0_0 : Int) (h0_1 h0_2 : NI) : Nat -> Int -> Int -> β -> (Int -> β) -> β
  | 0, _, _, _, _ => z
  | m + 1, seen, t10, k0, k1 => q00c z n h0_0 h0_1 h0_2 seen t10 (fun seen t10 => q00d z n h0_0 h0_1 h0_2 m seen t10 k0 k1) k0 k1
def q00e {β : Type} (z : β) (N : Nat) (n h0_0 : Int) (h0_1 h0_2 : NI) (k0 : Bool -> β) : β :=
  q00d z n h0_0 h0_1 h0_2 N 0 0 (k0 false) (fun q7 => cond (decide (0 <= n) && decide (n < (↑64 : Int))) (cond (fits .i64 (shlI 1 n)) (cond (fits .i64 (shlI 1 n - 1)) (k0 (q7 == shlI 1 n - 1)) (z)) (z)) (z))
def q00f {β : Type} (z : β) (t25 h0_0 : Int) (h0_1 h0_2 : NI) (t26 : Int) (kn : Int -> β) (k0 k1 : β) : β :=
  cond (decide (t26 < t25)) (cond (decide (0 <= t26) && decide (t26 < (↑8 : Int))) (cond (t26.toNat.blt 8) (cond (decide (0 <= t26) && decide (t26 < (↑8 : Int))) (cond (t26.toNat.blt 8) (cond (h0_1 t26.toNat == h0_2 t26.toNat) (k0) (cond (fits .i64 (t26 + 1)) (kn (t26 + 1)) (z))) (z)) (z)) (z)) (z)) (k1)
def q00g {β : Type} (z : β) (t25 h0_0 : Int) (h0_1 h0_2 : NI) : Nat -> Int -> β -> β -> β
  | 0, _, _, _ => z
  | m + 1, t26, k0, k1 => q00f z t25 h0_0 h0_1 h0_2 t26 (fun t26 => q00g z t25 h0_0 h0_1 h0_2 m t26 k0 k1) k0 k1
def q00h {β : Type} (z : β) (N : Nat) (g_0 : Int) (g_1 g_2 : NI) (k0 : Bool -> β) : β :=
  q001 z N g_0 2 8 (fun q6 => cond (!q6) (k0 false) (q008 z N g_0 g_1 g_2 (q00b z N g_0 g_0 g_1 g_2 (fun q7 => cond (!q7) (k0 false) (q008 z N g_0 g_1 g_2 (q00e z N g_0 g_0 g_1 g_2 (fun q8 => cond (!q8) (k0 false) (q008 z N g_0 g_1 g_2 (q00g z g_0 g_0 g_1 g_2 N 0 (k0 false) (k0 true))))))))))
end Go.AM
set_option maxRecDepth 100000
namespace Go.AM
end Go.AM
set_option maxRecDepth 100000
namespace Go.AM
def q00i {β : Type} (z : β) (t1 t2 t7 h0_0 : Int) (h0_1 h0_2 : NI) (h1_0 : Int) (h1_1 h1_2 : NI) (h2_0 t9 : Int) (h2_1 h2_2 : NI) (kn : Int -> NI -> NI -> β) (k0 : NI -> NI -> β) : β :=
  cond (decide (t9 < t7)) (cond (fits .i64 (t9 + t2)) (cond (!t7 == 0) (cond (fits .i64 ((t9 + t2).tmod t7 + t7)) (cond (!t7 == 0) (cond (decide (0 <= t9) && decide (t9 < (↑8 : Int))) (cond (t9.toNat.blt 8) (cond (fits .i64 (h0_1 t9.toNat + t1)) (cond (!t7 == 0) (cond (fits .i64 ((h0_1 t9.toNat + t1).tmod t7 + t7)) (cond (!t7 == 0) (cond (decide (0 <= ((t9 + t2).tmod t7 + t7).tmod t7) && decide (((t9 + t2).tmod t7 + t7).tmod t7 < (↑8 : Int))) (cond ((((t9 + t2).tmod t7 + t7).tmod t7).toNat.blt 8) (cond (decide (0 <= t9) && decide (t9 < (↑8 : Int))) (cond (t9.toNat.blt 8) (cond (fits .i64 (h0_2 t9.toNat + t1)) (cond (!t7 == 0) (cond (fits .i64 ((h0_2 t9.toNat + t1).tmod t7 + t7)) (cond (!t7 == 0) (cond (decide (0 <= ((t9 + t2).tmod t7 + t7).tmod t7) && decide (((t9 + t2).tmod t7 + t7).tmod t7 < (↑8 : Int))) (cond ((((t9 + t2).tmod t7 + t7).tmod t7).toNat.blt 8) (cond (fits .i64 (t9 + 1)) (kn (t9 + 1) (upd h2_1 (((t9 + t2).tmod t7 + t7).tmod t7).toNat (wrapU .u8 (((h0_1 t9.toNat + t1).tmod t7 + t7).tmod t7))) (upd h2_2 (((t9 + t2).tmod t7 + t7).tmod t7).toNat (wrapU .u8 (((h0_2 t9.toNat + t1).tmod t7 + t7).tmod t7)))) (z)) (z)) (z)) (z)) (z)) (z)) (z)) (z)) (z)) (z)) (z)) (z)) (z)) (z)) (z)) (z)) (z)) (z)) (z)) (z)) (z)) (k0 h2_1 h2_2)
def q00j {β : Type} (z : β) (t1 t2 t7 h0_0 : Int) (h0_1 h0_2 : NI) (h1_0 : Int) (h1_1 h1_2 : NI) (h2_0 : Int) : Nat -> Int -> NI -> NI -> (NI -> NI -> β) -> β
  | 0, _, _, _, _ => z
  | m + 1, t9, h2_1, h2_2, k0 => q00i z t1 t2 t7 h0_0 h0_1 h0_2 h1_0 h1_1 h1_2 h2_0 t9 h2_1 h2_2 (fun t9 h2_1 h2_2 => q00j z t1 t2 t7 h0_0 h0_1 h0_2 h1_0 h1_1 h1_2 h2_0 m t9 h2_1 h2_2 k0) k0
def q00k {β : Type} (z : β) (N : Nat) (g_0 : Int) (g_1 g_2 : NI) (a1 a2 : Int) (k0 : NI -> NI -> β) : β :=
  q00j z a1 a2 g_0 g_0 g_1 g_2 0 (fun (x : Nat) => 0) (fun (x : Nat) => 0) g_0 N 0 (fun (x : Nat) => 0) (fun (x : Nat) => 0) (fun q8 q9 => k0 q8 q9)
def q00l {β : Type} (z : β) (N : Nat) (g_0 : Int) (g_1 g_2 : NI) (v u : Int) (k0 : Int -> NI -> NI -> Int -> β) : β :=
  q007 z N g_0 g_1 g_2 (fun q8 => cond (!q8) (k0 0 (fun (x : Nat) => 0) (fun (x : Nat) => 0) 1) (q000 z N v (-100) 100 (fun q9 => cond (!q9) (k0 0 (fun (x : Nat) => 0) (fun (x : Nat) => 0) 2) (q000 z N u (-100) 100 (fun q10 => cond (!q10) (k0 0 (fun (x : Nat) => 0) (fun (x : Nat) => 0) 2) (q00k z N g_0 g_1 g_2 v u (fun q11 q12 => k0 g_0 q11 q12 0)))))))
def q00m {β : Type} (z : β) (N : Nat) (i r_ h0 h1_0 : Int) (h1_1 h1_2 : NI) (h2 : Int) (k0 : Int -> Int -> β) : β :=
  cond (fits .i64 (i + h0)) (q008 z N h1_0 h1_1 h1_2 (cond (!h1_0 == 0) (cond (fits .i64 (r_ + h2)) (q008 z N h1_0 h1_1 h1_2 (cond (!h1_0 == 0) (k0 ((i + h0).tmod h1_0) ((r_ + h2).tmod h1_0)) (z))) (z)) (z))) (z)
def q00n {β : Type} (z : β) (N : Nat) (t22 h0 h1_0 : Int) (h1_1 h1_2 : NI) (h2 h3_0 : Int) (h3_1 h3_2 : NI) (h4_0 : Int) (h4_1 h4_2 : NI) (h5_0 t23 : Int) (h5_1 h5_2 : NI) (kn : Int -> NI -> NI -> β) (k0 : NI -> NI -> β) : β :=
  cond (decide (t23 < t22)) (cond (decide (0 <= t23) && decide (t23 < (↑8 : Int))) (cond (t23.toNat.blt 8) (q00m z N t23 (h3_1 t23.toNat) h0 h1_0 h1_1 h1_2 h2 (fun q20 q21 => cond (decide (0 <= q20) && decide (q20 < (↑8 : Int))) (cond (q20.toNat.blt 8) (cond (decide (0 <= t23) && decide (t23 < (↑8 : Int))) (cond (t23.toNat.blt 8) (q00m z N t23 (h3_2 t23.toNat) h0 h1_0 h1_1 h1_2 h2 (fun q22 q23 => cond (decide (0 <= q22) && decide (q22 < (↑8 : Int))) (cond (q22.toNat.blt 8) (cond (fits .i64 (t23 + 1)) (kn (t23 + 1) (upd h5_1 q22.toNat (wrapU .u8 q23)) (upd h5_2 q20.toNat (wrapU .u8 q21))) (z)) (z)) (z))) (z)) (z)) (z)) (z))) (z)) (z)) (k0 h5_1 h5_2)
def q00o {β : Type} (z : β) (N : Nat) (t22 h0 h1_0 : Int) (h1_1 h1_2 : NI) (h2 h3_0 : Int) (h3_1 h3_2 : NI) (h4_0 : Int) (h4_1 h4_2 : NI) (h5_0 : Int) : Nat -> Int -> NI -> NI -> (NI -> NI -> β) -> β
  | 0, _, _, _, _ => z
  | m + 1, t23, h5_1, h5_2, k0 => q00n z N t22 h0 h1_0 h1_1 h1_2 h2 h3_0 h3_1 h3_2 h4_0 h4_1 h4_2 h5_0 t23 h5_1 h5_2 (fun t23 h5_1 h5_2 => q00o z N t22 h0 h1_0 h1_1 h1_2 h2 h3_0 h3_1 h3_2 h4_0 h4_1 h4_2 h5_0 m t23 h5_1 h5_2 k0) k0
def q00p {β : Type} (z : β) (N : Nat) (t22 h0 h1_0 : Int) (h1_1 h1_2 : NI) (h2 h3_0 : Int) (h3_1 h3_2 : NI) (h4_0 : Int) (h4_1 h4_2 : NI) (h5_0 t23 : Int) (h5_1 h5_2 : NI) (kn : Int -> NI -> NI -> β) (k0 : NI -> NI -> β) : β :=
  cond (decide (t23 < t22)) (cond (decide (0 <= t23) && decide (t23 < (↑8 : Int))) (cond (t23.toNat.blt 8) (q00m z N t23 (h3_1 t23.toNat) h0 h1_0 h1_1 h1_2 h2 (fun q20 q21 => cond (decide (0 <= q20) && decide (q20 < (↑8 : Int))) (cond (q20.toNat.blt 8) (cond (decide (0 <= t23) && decide (t23 < (↑8 : Int))) (cond (t23.toNat.blt 8) (q00m z N t23 (h3_2 t23.toNat) h0 h1_0 h1_1 h1_2 h2 (fun q22 q23 => cond (decide (0 <= q22) && decide (q22 < (↑8 : Int))) (cond (q22.toNat.blt 8) (cond (fits .i64 (t23 + 1)) (kn (t23 + 1) (upd h5_1 q20.toNat (wrapU .u8 q21)) (upd h5_2 q22.toNat (wrapU .u8 q23))) (z)) (z)) (z))) (z)) (z)) (z)) (z))) (z)) (z)) (k0 h5_1 h5_2)
def q00q {β : Type} (z : β) (N : Nat) (t22 h0 h1_0 : Int) (h1_1 h1_2 : NI) (h2 h3_0 : Int) (h3_1 h3_2 : NI) (h4_0 : Int) (h4_1 h4_2 : NI) (h5_0 : Int) : Nat -> Int -> NI -> NI -> (NI -> NI -> β) -> β
  | 0, _, _, _, _ => z
  | m + 1, t23, h5_1, h5_2, k0 => q00p z N t22 h0 h1_0 h1_1 h1_2 h2 h3_0 h3_1 h3_2 h4_0 h4_1 h4_2 h5_0 t23 h5_1 h5_2 (fun t23 h5_1 h5_2 => q00q z N t22 h0 h1_0 h1_1 h1_2 h2 h3_0 h3_1 h3_2 h4_0 h4_1 h4_2 h5_0 m t23 h5_1 h5_2 k0) k0
def q00r {β : Type} (z : β) (N : Nat) (g_0 : Int) (g_1 g_2 : NI) (exchanged : Bool) (h0 h1_0 : Int) (h1_1 h1_2 : NI) (h2 : Int) (k0 : NI -> NI -> β) : β :=
  cond (exchanged) (q008 z N g_0 g_1 g_2 (q00o z N g_0 h0 h1_0 h1_1 h1_2 h2 g_0 g_1 g_2 0 (fun (x : Nat) => 0) (fun (x : Nat) => 0) g_0 N 0 (fun (x : Nat) => 0) (fun (x : Nat) => 0) (fun q12 q13 => k0 q12 q13))) (q008 z N g_0 g_1 g_2 (q00q z N g_0 h0 h1_0 h1_1 h1_2 h2 g_0 g_1 g_2 0 (fun (x : Nat) => 0) (fun (x : Nat) => 0) g_0 N 0 (fun (x : Nat) => 0) (fun (x : Nat) => 0) (fun q12 q13 => k0 q12 q13)))
def q00s {β : Type} (z : β) (N : Nat) (g_0 : Int) (g_1 g_2 : NI) (v u : Int) (k0 : NI -> NI -> β) : β :=
  q00r z N g_0 g_1 g_2 false u g_0 g_1 g_2 v (fun q8 q9 => k0 q8 q9)
def q00t {β : Type} (z : β) (N : Nat) (g_0 : Int) (g_1 g_2 : NI) (v u : Int) (k0 : Int -> NI -> NI -> Int -> β) : β :=
  q00h z N g_0 g_1 g_2 (fun q8 => cond (!q8) (k0 0 (fun (x : Nat) => 0) (fun (x : Nat) => 0) 1) (q001 z N v (-100) 100 (fun q9 => cond (!q9) (k0 0 (fun (x : Nat) => 0) (fun (x : Nat) => 0) 2) (q001 z N u (-100) 100 (fun q10 => cond (!q10) (k0 0 (fun (x : Nat) => 0) (fun (x : Nat) => 0) 2) (cond (fits .i64 (100 * g_0)) (cond (fits .i64 (v + 100 * g_0)) (cond (!g_0 == 0) (cond (fits .i64 (100 * g_0)) (cond (fits .i64 (u + 100 * g_0)) (cond (!g_0 == 0) (q00s z N g_0 g_1 g_2 ((v + 100 * g_0).tmod g_0) ((u + 100 * g_0).tmod g_0) (fun q11 q12 => k0 g_0 q11 q12 0)) (z)) (z)) (z)) (z)) (z)) (z)))))))
end Go.AM
set_option maxRecDepth 100000
namespace Go.AM
def q00u {β : Type} (z : β) (n r_ : Int) (h0 : NI) (i : Int) (kn k0 : Int -> β) (k1 : β) : β :=
  cond (decide (i < n)) (cond (decide (0 <= i) && decide (i < (↑8 : Int))) (cond (i.toNat.blt 8) (cond (h0 i.toNat == r_) (k0 i) (cond (fits .i64 (i + 1)) (kn (i + 1)) (z))) (z)) (z)) (k1)
def q00v {β : Type} (z : β) (n r_ : Int) (h0 : NI) : Nat -> Int -> (Int -> β) -> β -> β
  | 0, _, _, _ => z
  | m + 1, i, k0, k1 => q00u z n r_ h0 i (fun i => q00v z n r_ h0 m i k0 k1) k0 k1
def q00w {β : Type} (z : β) (N : Nat) (list : NI) (n r_ : Int) (k0 : Int -> β) : β :=
  q00v z n r_ list N 0 (fun q6 => k0 q6) (k0 0)
def q00x {β : Type} (z : β) (t9 h0_0 : Int) (h0_1 h0_2 h1 h2 : NI) (t10 : Int) (h3 : NI) (kn : Int -> NI -> β) (k0 : NI -> β) : β :=
  cond (decide (t10 < t9)) (cond (decide (0 <= t10) && decide (t10 < (↑8 : Int))) (cond (t10.toNat.blt 8) (cond (decide (0 <= h1 t10.toNat) && decide (h1 t10.toNat < (↑8 : Int))) (cond ((h1 t10.toNat).toNat.blt 8) (cond (fits .i64 (t10 + 1)) (kn (t10 + 1) (upd h3 (h1 t10.toNat).toNat t10)) (z)) (z)) (z)) (z)) (z)) (k0 h3)
def q00y {β : Type} (z : β) (t9 h0_0 : Int) (h0_1 h0_2 h1 h2 : NI) : Nat -> Int -> NI -> (NI -> β) -> β
  | 0, _, _, _ => z
  | m + 1, t10, h3, k0 => q00x z t9 h0_0 h0_1 h0_2 h1 h2 t10 h3 (fun t10 h3 => q00y z t9 h0_0 h0_1 h0_2 h1 h2 m t10 h3 k0) k0
def q00z {β : Type} (z : β) (N : Nat) (g_0 : Int) (g_1 g_2 rows : NI) (k0 : NI -> β) : β :=
  q008 z N g_0 g_1 g_2 (q00y z g_0 g_0 g_1 g_2 rows (fun (x : Nat) => 0) N 0 (fun (x : Nat) => 0) (fun q7 => k0 q7))
end Go.AM
set_option maxRecDepth 100000
namespace Go.AM
end Go.AM
set_option maxRecDepth 100000
namespace Go.AM
def w_big {β : Type} (z : β) (N code_n code_l code_c h0_n : Nat) (h0 : NI) (k0 : Bool -> β) : β :=
  cond (code_l.ble 9223372036854775807) (k0 (decide (4096 < (↑code_l : Int)))) (z)
def q010 {β : Type} (z : β) (code_n code_l code_c h0_n : Nat) (h0 : NI) (h1_0_n h1_0_l h1_0_c : Nat) (h1_1 i h1_2 : Int) (kn : Int -> Int -> β) (k0 : Int -> β) : β :=
  cond (code_l.ble 9223372036854775807) (cond (decide (i < (↑code_l : Int))) (cond (decide (i < 4096)) (cond (code_n.beq h0_n && (decide (0 <= i) && decide (i < (↑code_l : Int)))) (cond (code_n.beq h0_n && i.toNat.blt h0_n) (cond (fits .i64 (i + 1)) (kn (i + 1) (wrapU .u64 (wrapU .u64 (wrapU .u64 (h1_2 * 1099511628211) + h0 i.toNat) + 43))) (z)) (z)) (z)) (k0 h1_2)) (k0 h1_2)) (z)
def q011 {β : Type} (z : β) (code_n code_l code_c h0_n : Nat) (h0 : NI) (h1_0_n h1_0_l h1_0_c : Nat) (h1_1 : Int) : Nat -> Int -> Int -> (Int -> β) -> β
  | 0, _, _, _ => z
  | m + 1, i, h1_2, k0 => q010 z code_n code_l code_c h0_n h0 h1_0_n h1_0_l h1_0_c h1_1 i h1_2 (fun i h1_2 => q011 z code_n code_l code_c h0_n h0 h1_0_n h1_0_l h1_0_c h1_1 m i h1_2 k0) k0
def q012 {β : Type} (z : β) (N code_n code_l code_c h0_n : Nat) (h0 : NI) (k0 : Int -> Int -> β) : β :=
  cond (code_l.ble 9223372036854775807) (q011 z code_n code_l code_c h0_n h0 code_n code_l code_c 0 N 0 (wrapU .u64 (10711 + wrapU .u64 (↑code_l : Int))) (fun q8 => k0 0 q8)) (z)
def q013 {β : Type} (z : β) (N : Nat) (n : Int) (h0_n : Nat) (h0 : NI) (h1_0_n h1_0_l h1_0_c : Nat) (h1_1 h1_2 : Int) (k0 : Int -> Int -> Int -> β) : β :=
  cond (decide (n < 1)) (k0 0 h1_1 h1_2) (cond (fits .i64 (bitI BinOp.and IntKind.u64 (shrI (wrapU .u64 (wrapU .u64 (h1_2 * 6364136223846793005) + 1442695040888963407)) 33) 16777215)) (cond (h1_0_l.ble 9223372036854775807) (cond (decide (h1_1 < (↑h1_0_l : Int))) (cond (h1_0_n.beq h0_n && (decide (0 <= h1_1) && decide (h1_1 < (↑h1_0_l : Int)))) (cond (h1_0_n.beq h0_n && h1_1.toNat.blt h0_n) (cond (fits .i64 (bitI BinOp.and IntKind.u64 (shrI (wrapU .u64 (wrapU .u64 (h1_2 * 6364136223846793005) + 1442695040888963407)) 33) 16777215 + h0 h1_1.toNat)) (cond (fits .i64 (h1_1 + 1)) (cond (!n == 0) (k0 ((bitI BinOp.and IntKind.u64 (shrI (wrapU .u64 (wrapU .u64 (h1_2 * 6364136223846793005) + 1442695040888963407)) 33) 16777215 + h0 h1_1.toNat).tmod n) (h1_1 + 1) (wrapU .u64 (wrapU .u64 (h1_2 * 6364136223846793005) + 1442695040888963407))) (z)) (z)) (z)) (z)) (z)) (cond (!n == 0) (k0 ((bitI BinOp.and IntKind.u64 (shrI (wrapU .u64 (wrapU .u64 (h1_2 * 6364136223846793005) + 1442695040888963407)) 33) 16777215).tmod n) h1_1 (wrapU .u64 (wrapU .u64 (h1_2 * 6364136223846793005) + 1442695040888963407))) (z))) (z)) (z))
def q014 {β : Type} (z : β) (N h0_n : Nat) (h0 : NI) (h1_0_n h1_0_l h1_0_c : Nat) (h1_1 h1_2 : Int) (h2 : List Int) (k0 : Int -> Int -> Int -> β) : β :=
  q013 z N 3 h0_n h0 h1_0_n h1_0_l h1_0_c h1_1 h1_2 (fun q11 q12 q13 => cond (Nat.beq 3 h2.length && (decide (0 <= q11) && decide (q11 < (↑3 : Int)))) (cond (Nat.beq 3 h2.length && q11.toNat.blt h2.length) (k0 (h2[q11.toNat]?.getD 0) q12 q13) (z)) (z))
def q015 {β : Type} (z : β) (n : Int) (h0_n : Nat) (h0 : NI) (h1_0_n h1_0_l h1_0_c : Nat) (h1_1 h1_2 : Int) (h2 : NI) (i : Int) (h3 : NI) (kn : Int -> NI -> β) (k0 : NI -> β) : β :=
  cond (decide (i < n)) (cond (decide (0 <= i) && decide (i < (↑8 : Int))) (cond (i.toNat.blt 8) (cond (fits .i64 (i + 1)) (kn (i + 1) (upd h3 i.toNat (wrapU .u8 i))) (z)) (z)) (z)) (k0 h3)
def q016 {β : Type} (z : β) (n : Int) (h0_n : Nat) (h0 : NI) (h1_0_n h1_0_l h1_0_c : Nat) (h1_1 h1_2 : Int) (h2 : NI) : Nat -> Int -> NI -> (NI -> β) -> β
  | 0, _, _, _ => z
  | m + 1, i, h3, k0 => q015 z n h0_n h0 h1_0_n h1_0_l h1_0_c h1_1 h1_2 h2 i h3 (fun i h3 => q016 z n h0_n h0 h1_0_n h1_0_l h1_0_c h1_1 h1_2 h2 m i h3 k0) k0
def q017 {β : Type} (z : β) (N h0_n : Nat) (h0 : NI) (h1_0_n h1_0_l h1_0_c : Nat) (h2 : NI) (i h1_1 h1_2 : Int) (h3 : NI) (kn : Int -> Int -> Int -> NI -> β) (k0 : Int -> Int -> NI -> β) : β :=
  cond (decide (0 < i)) (cond (fits .i64 (i + 1)) (q013 z N (i + 1) h0_n h0 h1_0_n h1_0_l h1_0_c h1_1 h1_2 (fun q14 q15 q16 => cond (decide (0 <= i) && decide (i < (↑8 : Int))) (cond (i.toNat.blt 8) (cond (decide (0 <= q14) && decide (q14 < (↑8 : Int))) (cond (q14.toNat.blt 8) (cond (decide (0 <= i) && decide (i < (↑8 : Int))) (cond (i.toNat.blt 8) (cond (decide (0 <= q14) && decide (q14 < (↑8 : Int))) (cond (q14.toNat.blt 8) (cond (fits .i64 (i - 1)) (kn (i - 1) q15 q16 (upd (upd h3 i.toNat (h3 q14.toNat)) q14.toNat (h3 i.toNat))) (z)) (z)) (z)) (z)) (z)) (z)) (z)) (z)) (z))) (z)) (k0 h1_1 h1_2 h3)
def q018 {β : Type} (z : β) (N h0_n : Nat) (h0 : NI) (h1_0_n h1_0_l h1_0_c : Nat) (h2 : NI) : Nat -> Int -> Int -> Int -> NI -> (Int -> Int -> NI -> β) -> β
  | 0, _, _, _, _, _ => z
  | m + 1, i, h1_1, h1_2, h3, k0 => q017 z N h0_n h0 h1_0_n h1_0_l h1_0_c h2 i h1_1 h1_2 h3 (fun i h1_1 h1_2 h3 => q018 z N h0_n h0 h1_0_n h1_0_l h1_0_c h2 m i h1_1 h1_2 h3 k0) k0
def q019 {β : Type} (z : β) (N : Nat) (n : Int) (h0_n : Nat) (h0 : NI) (h1_0_n h1_0_l h1_0_c : Nat) (h1_1 h1_2 : Int) (k0 : NI -> Int -> Int -> β) : β :=
  q016 z n h0_n h0 h1_0_n h1_0_l h1_0_c h1_1 h1_2 (fun (x : Nat) => 0) N 0 (fun (x : Nat) => 0) (fun q11 => cond (fits .i64 (n - 1)) (q018 z N h0_n h0 h1_0_n h1_0_l h1_0_c (fun (x : Nat) => 0) N (n - 1) h1_1 h1_2 q11 (fun q12 q13 q14 => k0 q14 q12 q13)) (z))
def q01a {β : Type} (z : β) (t1 : Int) (h0_n : Nat) (h0 : NI) (h1_0_n h1_0_l h1_0_c : Nat) (h1_1 h1_2 h2_0 : Int) (h2_1 h2_2 h3 : NI) (t7 : Int) (h4 : NI) (kn : Int -> NI -> β) (k0 : NI -> β) : β :=
  cond (fits .i64 (3 * t1)) (cond (decide (t7 < 3 * t1)) (cond (!t1 == 0) (cond (decide (0 <= t7.tmod t1) && decide (t7.tmod t1 < (↑8 : Int))) (cond ((t7.tmod t1).toNat.blt 8) (cond (decide (0 <= t7.tmod t1) && decide (t7.tmod t1 < (↑8 : Int))) (cond ((t7.tmod t1).toNat.blt 8) (cond (h3 (t7.tmod t1).toNat == h4 (t7.tmod t1).toNat) (cond (fits .i64 (t7.tmod t1 + 1)) (cond (!t1 == 0) (cond (decide (0 <= t7.tmod t1) && decide (t7.tmod t1 < (↑8 : Int))) (cond ((t7.tmod t1).toNat.blt 8) (cond (decide (0 <= (t7.tmod t1 + 1).tmod t1) && decide ((t7.tmod t1 + 1).tmod t1 < (↑8 : Int))) (cond (((t7.tmod t1 + 1).tmod t1).toNat.blt 8) (cond (decide (0 <= t7.tmod t1) && decide (t7.tmod t1 < (↑8 : Int))) (cond ((t7.tmod t1).toNat.blt 8) (cond (decide (0 <= (t7.tmod t1 + 1).tmod t1) && decide ((t7.tmod t1 + 1).tmod t1 < (↑8 : Int))) (cond (((t7.tmod t1 + 1).tmod t1).toNat.blt 8) (cond (fits .i64 (t7 + 1)) (kn (t7 + 1) (upd (upd h4 (t7.tmod t1).toNat (h4 ((t7.tmod t1 + 1).tmod t1).toNat)) ((t7.tmod t1 + 1).tmod t1).toNat (h4 (t7.tmod t1).toNat))) (z)) (z)) (z)) (z)) (z)) (z)) (z)) (z)) (z)) (z)) (z)) (cond (fits .i64 (t7 + 1)) (kn (t7 + 1) h4) (z))) (z)) (z)) (z)) (z)) (z)) (k0 h4)) (z)
def q01b {β : Type} (z : β) (t1 : Int) (h0_n : Nat) (h0 : NI) (h1_0_n h1_0_l h1_0_c : Nat) (h1_1 h1_2 h2_0 : Int) (h2_1 h2_2 h3 : NI) : Nat -> Int -> NI -> (NI -> β) -> β
  | 0, _, _, _ => z
  | m + 1, t7, h4, k0 => q01a z t1 h0_n h0 h1_0_n h1_0_l h1_0_c h1_1 h1_2 h2_0 h2_1 h2_2 h3 t7 h4 (fun t7 h4 => q01b z t1 h0_n h0 h1_0_n h1_0_l h1_0_c h1_1 h1_2 h2_0 h2_1 h2_2 h3 m t7 h4 k0) k0
def q01c {β : Type} (z : β) (t1 : Int) (h0_n : Nat) (h0 : NI) (h1_0_n h1_0_l h1_0_c : Nat) (h1_1 h1_2 h2_0 : Int) (h2_1 h2_2 h3 h4 : NI) (h5_0 : Int) (h5_1 : NI) (t12 : Int) (h5_2 : NI) (kn : Int -> NI -> β) (k0 : NI -> β) : β :=
  cond (decide (t12 < t1)) (cond (decide (0 <= t12) && decide (t12 < (↑8 : Int))) (cond (t12.toNat.blt 8) (cond (fits .i64 (h3 t12.toNat + 1)) (cond (!t1 == 0) (cond (decide (0 <= t12) && decide (t12 < (↑8 : Int))) (cond (t12.toNat.blt 8) (cond (fits .i64 (t12 + 1)) (kn (t12 + 1) (upd h5_2 t12.toNat (wrapU .u8 ((h3 t12.toNat + 1).tmod t1)))) (z)) (z)) (z)) (z)) (z)) (z)) (z)) (k0 h5_2)
def q01d {β : Type} (z : β) (t1 : Int) (h0_n : Nat) (h0 : NI) (h1_0_n h1_0_l h1_0_c : Nat) (h1_1 h1_2 h2_0 : Int) (h2_1 h2_2 h3 h4 : NI) (h5_0 : Int) (h5_1 : NI) : Nat -> Int -> NI -> (NI -> β) -> β
  | 0, _, _, _ => z
  | m + 1, t12, h5_2, k0 => q01c z t1 h0_n h0 h1_0_n h1_0_l h1_0_c h1_1 h1_2 h2_0 h2_1 h2_2 h3 h4 h5_0 h5_1 t12 h5_2 (fun t12 h5_2 => q01d z t1 h0_n h0 h1_0_n h1_0_l h1_0_c h1_1 h1_2 h2_0 h2_1 h2_2 h3 h4 h5_0 h5_1 m t12 h5_2 k0) k0
def q01e {β : Type} (z : β) (N : Nat) (a1 : Int) (h0_n : Nat) (h0 : NI) (h1_0_n h1_0_l h1_0_c : Nat) (h1_1 h1_2 : Int) (k0 : NI -> NI -> Int -> Int -> β) : β :=
  q019 z N a1 h0_n h0 h1_0_n h1_0_l h1_0_c h1_1 h1_2 (fun q11 q12 q13 => q019 z N a1 h0_n h0 h1_0_n h1_0_l h1_0_c q12 q13 (fun q14 q15 q16 => q01b z a1 h0_n h0 h1_0_n h1_0_l h1_0_c q15 q16 0 (fun (x : Nat) => 0) (fun (x : Nat) => 0) q11 N 0 q14 (fun q17 => q007 z N a1 q11 q17 (fun q18 => cond (!q18) (q01d z a1 h0_n h0 h1_0_n h1_0_l h1_0_c q15 q16 0 (fun (x : Nat) => 0) (fun (x : Nat) => 0) q11 q17 a1 q11 N 0 q17 (fun q19 => k0 q11 q19 q15 q16)) (k0 q11 q17 q15 q16)))))
def q01f {β : Type} (z : β) (N h0_n : Nat) (h0 : NI) (h1_0_n h1_0_l h1_0_c : Nat) (h1_1 h1_2 : Int) (h2 : List Int) (k0 : Int -> Int -> Int -> β) : β :=
  q013 z N 5 h0_n h0 h1_0_n h1_0_l h1_0_c h1_1 h1_2 (fun q11 q12 q13 => cond (Nat.beq 5 h2.length && (decide (0 <= q11) && decide (q11 < (↑5 : Int)))) (cond (Nat.beq 5 h2.length && q11.toNat.blt h2.length) (k0 (h2[q11.toNat]?.getD 0) q12 q13) (z)) (z))
def q01g {β : Type} (z : β) (p n : Int) (h0_n : Nat) (h0 : NI) (h1_0_n h1_0_l h1_0_c : Nat) (h1_1 h1_2 h2_0 : Int) (h2_1 h2_2 : NI) (h3_0 i : Int) (h3_1 h3_2 : NI) (kn : Int -> NI -> NI -> β) (k0 : NI -> NI -> β) : β :=
  cond (decide (i < n)) (cond (decide (0 <= i) && decide (i < (↑8 : Int))) (cond (i.toNat.blt 8) (cond (fits .i64 (i + p)) (cond (!n == 0) (cond (decide (0 <= i) && decide (i < (↑8 : Int))) (cond (i.toNat.blt 8) (cond (fits .i64 (i + 1)) (kn (i + 1) (upd h3_1 i.toNat (wrapU .u8 i)) (upd h3_2 i.toNat (wrapU .u8 ((i + p).tmod n)))) (z)) (z)) (z)) (z)) (z)) (z)) (z)) (k0 h3_1 h3_2)
def q01h {β : Type} (z : β) (p n : Int) (h0_n : Nat) (h0 : NI) (h1_0_n h1_0_l h1_0_c : Nat) (h1_1 h1_2 h2_0 : Int) (h2_1 h2_2 : NI) (h3_0 : Int) : Nat -> Int -> NI -> NI -> (NI -> NI -> β) -> β
  | 0, _, _, _, _ => z
  | m + 1, i, h3_1, h3_2, k0 => q01g z p n h0_n h0 h1_0_n h1_0_l h1_0_c h1_1 h1_2 h2_0 h2_1 h2_2 h3_0 i h3_1 h3_2 (fun i h3_1 h3_2 => q01h z p n h0_n h0 h1_0_n h1_0_l h1_0_c h1_1 h1_2 h2_0 h2_1 h2_2 h3_0 m i h3_1 h3_2 k0) k0
def q01i {β : Type} (z : β) (N h0_n : Nat) (h0 : NI) (h1_0_n h1_0_l h1_0_c : Nat) (h1_1 h1_2 : Int) (k0 : Int -> NI -> NI -> Int -> Int -> β) : β :=
  q013 z N 6 h0_n h0 h1_0_n h1_0_l h1_0_c h1_1 h1_2 (fun q10 q11 q12 => cond (q10 == 0) (q013 z N 3 h0_n h0 h1_0_n h1_0_l h1_0_c q11 q12 (fun q13 q14 q15 => cond (fits .i64 (1 + q13)) (cond (fits .i64 (1 + q13 + 1)) (cond (fits .i64 (5 - (1 + q13))) (q013 z N (5 - (1 + q13)) h0_n h0 h1_0_n h1_0_l h1_0_c q14 q15 (fun q16 q17 q18 => cond (fits .i64 (1 + q13 + 1 + q16)) (q01h z (1 + q13) (1 + q13 + 1 + q16) h0_n h0 h1_0_n h1_0_l h1_0_c q17 q18 0 (fun (x : Nat) => 0) (fun (x : Nat) => 0) (1 + q13 + 1 + q16) N 0 (fun (x : Nat) => 0) (fun (x : Nat) => 0) (fun q19 q20 => q013 z N (1 + q13 + 1 + q16) h0_n h0 h1_0_n h1_0_l h1_0_c q17 q18 (fun q21 q22 q23 => q013 z N (1 + q13 + 1 + q16) h0_n h0 h1_0_n h1_0_l h1_0_c q22 q23 (fun q24 q25 q26 => q00k z N (1 + q13 + 1 + q16) q19 q20 q21 q24 (fun q27 q28 => k0 (1 + q13 + 1 + q16) q27 q28 q25 q26))))) (z))) (z)) (z)) (z))) (cond (q10 == 1) (q014 z N h0_n h0 h1_0_n h1_0_l h1_0_c q11 q12 ((((List.replicate 3 0).set 0 6).set 1 7).set 2 8) (fun q13 q14 q15 => q01e z N q13 h0_n h0 h1_0_n h1_0_l h1_0_c q14 q15 (fun q16 q17 q18 q19 => k0 q13 q16 q17 q18 q19))) (q01f z N h0_n h0 h1_0_n h1_0_l h1_0_c q11 q12 ((((((List.replicate 5 0).set 0 2).set 1 3).set 2 4).set 3 5).set 4 5) (fun q13 q14 q15 => q01e z N q13 h0_n h0 h1_0_n h1_0_l h1_0_c q14 q15 (fun q16 q17 q18 q19 => k0 q13 q16 q17 q18 q19)))))
def q01j {β : Type} (z : β) (N : Nat) (g_0 : Int) (g_1 g_2 : NI) (h0_n : Nat) (h0 : NI) (h1_0_n h1_0_l h1_0_c : Nat) (h1_1 h1_2 : Int) (k0 : Int -> NI -> NI -> Int -> Int -> β) : β :=
  q013 z N 40 h0_n h0 h1_0_n h1_0_l h1_0_c h1_1 h1_2 (fun q13 q14 q15 => cond (q13 == 0) (cond (fits .i64 (g_0 - 1)) (q01f z N h0_n h0 h1_0_n h1_0_l h1_0_c q14 q15 ((((((List.replicate 5 0).set 0 0).set 1 1).set 2 9).set 3 (-1)).set 4 (g_0 - 1)) (fun q16 q17 q18 => k0 q16 g_1 g_2 q17 q18)) (z)) (cond (q13 == 1) (q013 z N 8 h0_n h0 h1_0_n h1_0_l h1_0_c q14 q15 (fun q16 q17 q18 => q013 z N 9 h0_n h0 h1_0_n h1_0_l h1_0_c q17 q18 (fun q19 q20 q21 => cond (decide (0 <= q16) && decide (q16 < (↑8 : Int))) (cond (q16.toNat.blt 8) (k0 g_0 g_1 (upd g_2 q16.toNat (wrapU .u8 q19)) q20 q21) (z)) (z)))) (cond (q13 == 2) (k0 g_0 g_2 g_2 q14 q15) (k0 g_0 g_1 g_2 q14 q15))))
end Go.AM
set_option maxRecDepth 100000
namespace Go.AM
end Go.AM
set_option maxRecDepth 100000
namespace Go.AM
def q01k {β : Type} (z : β) (h0_0 : Int) (h0_1 h0_2 h1 : NI) (i : Int) (h2 : NI) (kn : Int -> NI -> β) (k0 : NI -> β) : β :=
  cond (decide (i < 8)) (cond (decide (0 <= i) && decide (i < (↑8 : Int))) (cond (i.toNat.blt 8) (cond (fits .i64 (i + 1)) (kn (i + 1) (upd h2 i.toNat (-1))) (z)) (z)) (z)) (k0 h2)
def q01l {β : Type} (z : β) (h0_0 : Int) (h0_1 h0_2 h1 : NI) : Nat -> Int -> NI -> (NI -> β) -> β
  | 0, _, _, _ => z
  | m + 1, i, h2, k0 => q01k z h0_0 h0_1 h0_2 h1 i h2 (fun i h2 => q01l z h0_0 h0_1 h0_2 h1 m i h2 k0) k0
def q01m {β : Type} (z : β) (N : Nat) (g_0 : Int) (g_1 g_2 : NI) (i : Int) (k0 : Int -> β) : β :=
  cond (decide (0 <= i) && decide (i < (↑8 : Int))) (cond (i.toNat.blt 8) (q00w z N g_1 g_0 (g_2 i.toNat) (fun q7 => k0 q7)) (z)) (z)
def q01n {β : Type} (z : β) (N : Nat) (count i h0_0 : Int) (h0_1 h0_2 h1 : NI) (k : Int) (h2 : NI) (kn : Int -> NI -> β) (k0 : NI -> β) : β :=
  cond (decide (0 <= k) && decide (k < (↑8 : Int))) (cond (k.toNat.blt 8) (cond (decide (h2 k.toNat < 0)) (cond (decide (0 <= k) && decide (k < (↑8 : Int))) (cond (k.toNat.blt 8) (q01m z N h0_0 h0_1 h0_2 k (fun q12 => kn q12 (upd h2 k.toNat count))) (z)) (z)) (k0 h2)) (z)) (z)
def q01o {β : Type} (z : β) (N : Nat) (count i h0_0 : Int) (h0_1 h0_2 h1 : NI) : Nat -> Int -> NI -> (NI -> β) -> β
  | 0, _, _, _ => z
  | m + 1, k, h2, k0 => q01n z N count i h0_0 h0_1 h0_2 h1 k h2 (fun k h2 => q01o z N count i h0_0 h0_1 h0_2 h1 m k h2 k0) k0
def q01p {β : Type} (z : β) (N : Nat) (h0_0 : Int) (h0_1 h0_2 h1 : NI) (count i : Int) (h2 : NI) (kn : Int -> Int -> NI -> β) (k0 : Int -> NI -> β) : β :=
  cond (decide (i < h0_0)) (cond (decide (0 <= i) && decide (i < (↑8 : Int))) (cond (i.toNat.blt 8) (cond (decide (0 <= h2 i.toNat)) (cond (fits .i64 (i + 1)) (kn count (i + 1) h2) (z)) (q01o z N count i h0_0 h0_1 h0_2 h1 N i h2 (fun q11 => cond (fits .i64 (count + 1)) (cond (fits .i64 (i + 1)) (kn (count + 1) (i + 1) q11) (z)) (z)))) (z)) (z)) (k0 count h2)
def q01q {β : Type} (z : β) (N : Nat) (h0_0 : Int) (h0_1 h0_2 h1 : NI) : Nat -> Int -> Int -> NI -> (Int -> NI -> β) -> β
  | 0, _, _, _, _ => z
  | m + 1, count, i, h2, k0 => q01p z N h0_0 h0_1 h0_2 h1 count i h2 (fun count i h2 => q01q z N h0_0 h0_1 h0_2 h1 m count i h2 k0) k0
def q01r {β : Type} (z : β) (N : Nat) (g_0 : Int) (g_1 g_2 : NI) (k0 : NI -> Int -> β) : β :=
  q01l z g_0 g_1 g_2 (fun (x : Nat) => 0) N 0 (fun (x : Nat) => 0) (fun q6 => q01q z N g_0 g_1 g_2 (fun (x : Nat) => 0) N 0 0 q6 (fun q7 q8 => k0 q8 q7))
end Go.AM
set_option maxRecDepth 100000
namespace Go.AM
end Go.AM
set_option maxRecDepth 100000
namespace Go.AM
end Go.AM
set_option maxRecDepth 100000
namespace Go.AM
def q01s {β : Type} (z : β) (many t16 t17 h0_0 : Int) (h0_1 h0_2 h1 h3 : NI) (k : Int) (h2 : NI) (kn : Int -> NI -> β) (k0 : NI -> β) : β :=
  cond (decide (0 <= k) && decide (k < (↑8 : Int))) (cond (k.toNat.blt 8) (cond (h2 k.toNat == 0) (cond (decide (0 <= k) && decide (k < (↑8 : Int))) (cond (k.toNat.blt 8) (cond (decide (0 <= k) && decide (k < (↑8 : Int))) (cond (k.toNat.blt 8) (cond (decide (0 <= h0_2 k.toNat) && decide (h0_2 k.toNat < (↑8 : Int))) (cond ((h0_2 k.toNat).toNat.blt 8) (kn (h3 (h0_2 k.toNat).toNat) (upd h2 k.toNat many)) (z)) (z)) (z)) (z)) (z)) (z)) (k0 h2)) (z)) (z)
def q01t {β : Type} (z : β) (many t16 t17 h0_0 : Int) (h0_1 h0_2 h1 h3 : NI) : Nat -> Int -> NI -> (NI -> β) -> β
  | 0, _, _, _ => z
  | m + 1, k, h2, k0 => q01s z many t16 t17 h0_0 h0_1 h0_2 h1 h3 k h2 (fun k h2 => q01t z many t16 t17 h0_0 h0_1 h0_2 h1 h3 m k h2 k0) k0
def q01u {β : Type} (z : β) (N : Nat) (t16 h0_0 : Int) (h0_1 h0_2 h1 h3 : NI) (many t17 : Int) (h2 : NI) (kn : Int -> Int -> NI -> β) (k0 : Int -> NI -> β) : β :=
  cond (decide (t17 < t16)) (cond (decide (0 <= t17) && decide (t17 < (↑8 : Int))) (cond (t17.toNat.blt 8) (cond (decide (0 < h2 t17.toNat)) (cond (fits .i64 (t17 + 1)) (kn many (t17 + 1) h2) (z)) (cond (fits .i64 (many + 1)) (q01t z (many + 1) t16 t17 h0_0 h0_1 h0_2 h1 h3 N t17 h2 (fun q13 => cond (fits .i64 (t17 + 1)) (kn (many + 1) (t17 + 1) q13) (z))) (z))) (z)) (z)) (k0 many h2)
def q01v {β : Type} (z : β) (N : Nat) (t16 h0_0 : Int) (h0_1 h0_2 h1 h3 : NI) : Nat -> Int -> Int -> NI -> (Int -> NI -> β) -> β
  | 0, _, _, _, _ => z
  | m + 1, many, t17, h2, k0 => q01u z N t16 h0_0 h0_1 h0_2 h1 h3 many t17 h2 (fun many t17 h2 => q01v z N t16 h0_0 h0_1 h0_2 h1 h3 m many t17 h2 k0) k0
def q01w {β : Type} (z : β) (many t42 h0_0 : Int) (h0_1 h0_2 h1 h3 : NI) (t43 : Int) (h2 : NI) (kn : Int -> NI -> β) (k0 : NI -> β) : β :=
  cond (decide (t43 < t42)) (cond (decide (0 <= t43) && decide (t43 < (↑8 : Int))) (cond (t43.toNat.blt 8) (cond (fits .i64 (h2 t43.toNat - 1)) (cond (decide (0 <= t43) && decide (t43 < (↑8 : Int))) (cond (t43.toNat.blt 8) (cond (fits .i64 (t43 + 1)) (kn (t43 + 1) (upd h2 t43.toNat (h2 t43.toNat - 1))) (z)) (z)) (z)) (z)) (z)) (z)) (k0 h2)
def q01x {β : Type} (z : β) (many t42 h0_0 : Int) (h0_1 h0_2 h1 h3 : NI) : Nat -> Int -> NI -> (NI -> β) -> β
  | 0, _, _, _ => z
  | m + 1, t43, h2, k0 => q01w z many t42 h0_0 h0_1 h0_2 h1 h3 t43 h2 (fun t43 h2 => q01x z many t42 h0_0 h0_1 h0_2 h1 h3 m t43 h2 k0) k0
def q01y {β : Type} (z : β) (N : Nat) (g_0 : Int) (g_1 g_2 : NI) (k0 : NI -> Int -> β) : β :=
  q00z z N g_0 g_1 g_2 g_1 (fun q6 => q008 z N g_0 g_1 g_2 (q01v z N g_0 g_0 g_1 g_2 (fun (x : Nat) => 0) q6 N 0 0 (fun (x : Nat) => 0) (fun q7 q8 => q008 z N g_0 g_1 g_2 (q01x z q7 g_0 g_0 g_1 g_2 (fun (x : Nat) => 0) q6 N 0 q8 (fun q9 => k0 q9 q7)))))
def q01z {β : Type} (z : β) (N : Nat) (g_0 : Int) (g_1 g_2 : NI) (k0 : Bool -> β) : β :=
  q01y z N g_0 g_1 g_2 (fun q6 q7 => k0 (q7 == 1))
end Go.AM
set_option maxRecDepth 100000
namespace Go.AM
end Go.AM
set_option maxRecDepth 100000
namespace Go.AM
end Go.AM
set_option maxRecDepth 100000
namespace Go.AM
end Go.AM
set_option maxRecDepth 100000
namespace Go.AM
def q020 {β : Type} (z : β) (n h0_0 : Int) (h0_1 h0_2 : NI) (h1_0 : Int) (h1_1 h1_2 : NI) (h2_0 i : Int) (h2_1 h2_2 : NI) (kn : Int -> NI -> NI -> β) (k0 : NI -> NI -> β) : β :=
  cond (decide (i < n)) (cond (fits .i64 (n - 1)) (cond (decide (0 <= i) && decide (i < (↑8 : Int))) (cond (i.toNat.blt 8) (cond (fits .i64 (n - 1 - h0_1 i.toNat)) (cond (decide (0 <= n - 1 - h0_1 i.toNat) && decide (n - 1 - h0_1 i.toNat < (↑8 : Int))) (cond ((n - 1 - h0_1 i.toNat).toNat.blt 8) (cond (fits .i64 (n - 1)) (cond (decide (0 <= i) && decide (i < (↑8 : Int))) (cond (i.toNat.blt 8) (cond (fits .i64 (n - 1 - h0_2 i.toNat)) (cond (decide (0 <= n - 1 - h0_2 i.toNat) && decide (n - 1 - h0_2 i.toNat < (↑8 : Int))) (cond ((n - 1 - h0_2 i.toNat).toNat.blt 8) (cond (fits .i64 (i + 1)) (kn (i + 1) (upd h2_1 (n - 1 - h0_2 i.toNat).toNat (wrapU .u8 i)) (upd h2_2 (n - 1 - h0_1 i.toNat).toNat (wrapU .u8 i))) (z)) (z)) (z)) (z)) (z)) (z)) (z)) (z)) (z)) (z)) (z)) (z)) (z)) (k0 h2_1 h2_2)
def q021 {β : Type} (z : β) (n h0_0 : Int) (h0_1 h0_2 : NI) (h1_0 : Int) (h1_1 h1_2 : NI) (h2_0 : Int) : Nat -> Int -> NI -> NI -> (NI -> NI -> β) -> β
  | 0, _, _, _, _ => z
  | m + 1, i, h2_1, h2_2, k0 => q020 z n h0_0 h0_1 h0_2 h1_0 h1_1 h1_2 h2_0 i h2_1 h2_2 (fun i h2_1 h2_2 => q021 z n h0_0 h0_1 h0_2 h1_0 h1_1 h1_2 h2_0 m i h2_1 h2_2 k0) k0
def q022 {β : Type} (z : β) (N : Nat) (i r_ h0_0 : Int) (h0_1 h0_2 : NI) (k0 : Int -> β) : β :=
  q008 z N h0_0 h0_1 h0_2 (cond (fits .i64 (h0_0 - 1)) (cond (fits .i64 (h0_0 - 1 - r_)) (k0 (h0_0 - 1 - r_)) (z)) (z))
def q023 {β : Type} (z : β) (N : Nat) (t22 h0_0 : Int) (h0_1 h0_2 : NI) (h1_0 : Int) (h1_1 h1_2 : NI) (h2_0 : Int) (h2_1 h2_2 : NI) (h3_0 t23 : Int) (h3_1 h3_2 : NI) (kn : Int -> NI -> NI -> β) (k0 : NI -> NI -> β) : β :=
  cond (decide (t23 < t22)) (cond (decide (0 <= t23) && decide (t23 < (↑8 : Int))) (cond (t23.toNat.blt 8) (q022 z N t23 (h1_1 t23.toNat) h0_0 h0_1 h0_2 (fun q18 => cond (decide (0 <= q18) && decide (q18 < (↑8 : Int))) (cond (q18.toNat.blt 8) (cond (decide (0 <= t23) && decide (t23 < (↑8 : Int))) (cond (t23.toNat.blt 8) (q022 z N t23 (h1_2 t23.toNat) h0_0 h0_1 h0_2 (fun q19 => cond (decide (0 <= q19) && decide (q19 < (↑8 : Int))) (cond (q19.toNat.blt 8) (cond (fits .i64 (t23 + 1)) (kn (t23 + 1) (upd h3_1 q19.toNat (wrapU .u8 t23)) (upd h3_2 q18.toNat (wrapU .u8 t23))) (z)) (z)) (z))) (z)) (z)) (z)) (z))) (z)) (z)) (k0 h3_1 h3_2)
def q024 {β : Type} (z : β) (N : Nat) (t22 h0_0 : Int) (h0_1 h0_2 : NI) (h1_0 : Int) (h1_1 h1_2 : NI) (h2_0 : Int) (h2_1 h2_2 : NI) (h3_0 : Int) : Nat -> Int -> NI -> NI -> (NI -> NI -> β) -> β
  | 0, _, _, _, _ => z
  | m + 1, t23, h3_1, h3_2, k0 => q023 z N t22 h0_0 h0_1 h0_2 h1_0 h1_1 h1_2 h2_0 h2_1 h2_2 h3_0 t23 h3_1 h3_2 (fun t23 h3_1 h3_2 => q024 z N t22 h0_0 h0_1 h0_2 h1_0 h1_1 h1_2 h2_0 h2_1 h2_2 h3_0 m t23 h3_1 h3_2 k0) k0
def q025 {β : Type} (z : β) (N : Nat) (t22 h0_0 : Int) (h0_1 h0_2 : NI) (h1_0 : Int) (h1_1 h1_2 : NI) (h2_0 : Int) (h2_1 h2_2 : NI) (h3_0 t23 : Int) (h3_1 h3_2 : NI) (kn : Int -> NI -> NI -> β) (k0 : NI -> NI -> β) : β :=
  cond (decide (t23 < t22)) (cond (decide (0 <= t23) && decide (t23 < (↑8 : Int))) (cond (t23.toNat.blt 8) (q022 z N t23 (h1_1 t23.toNat) h0_0 h0_1 h0_2 (fun q18 => cond (decide (0 <= q18) && decide (q18 < (↑8 : Int))) (cond (q18.toNat.blt 8) (cond (decide (0 <= t23) && decide (t23 < (↑8 : Int))) (cond (t23.toNat.blt 8) (q022 z N t23 (h1_2 t23.toNat) h0_0 h0_1 h0_2 (fun q19 => cond (decide (0 <= q19) && decide (q19 < (↑8 : Int))) (cond (q19.toNat.blt 8) (cond (fits .i64 (t23 + 1)) (kn (t23 + 1) (upd h3_1 q18.toNat (wrapU .u8 t23)) (upd h3_2 q19.toNat (wrapU .u8 t23))) (z)) (z)) (z))) (z)) (z)) (z)) (z))) (z)) (z)) (k0 h3_1 h3_2)
def q026 {β : Type} (z : β) (N : Nat) (t22 h0_0 : Int) (h0_1 h0_2 : NI) (h1_0 : Int) (h1_1 h1_2 : NI) (h2_0 : Int) (h2_1 h2_2 : NI) (h3_0 : Int) : Nat -> Int -> NI -> NI -> (NI -> NI -> β) -> β
  | 0, _, _, _, _ => z
  | m + 1, t23, h3_1, h3_2, k0 => q025 z N t22 h0_0 h0_1 h0_2 h1_0 h1_1 h1_2 h2_0 h2_1 h2_2 h3_0 t23 h3_1 h3_2 (fun t23 h3_1 h3_2 => q026 z N t22 h0_0 h0_1 h0_2 h1_0 h1_1 h1_2 h2_0 h2_1 h2_2 h3_0 m t23 h3_1 h3_2 k0) k0
def q027 {β : Type} (z : β) (N : Nat) (g_0 : Int) (g_1 g_2 : NI) (exchanged : Bool) (h0_0 : Int) (h0_1 h0_2 : NI) (k0 : NI -> NI -> β) : β :=
  cond (exchanged) (q008 z N g_0 g_1 g_2 (q024 z N g_0 h0_0 h0_1 h0_2 g_0 g_1 g_2 0 (fun (x : Nat) => 0) (fun (x : Nat) => 0) g_0 N 0 (fun (x : Nat) => 0) (fun (x : Nat) => 0) (fun q10 q11 => k0 q10 q11))) (q008 z N g_0 g_1 g_2 (q026 z N g_0 h0_0 h0_1 h0_2 g_0 g_1 g_2 0 (fun (x : Nat) => 0) (fun (x : Nat) => 0) g_0 N 0 (fun (x : Nat) => 0) (fun (x : Nat) => 0) (fun q10 q11 => k0 q10 q11)))
def q028 {β : Type} (z : β) (N : Nat) (g_0 : Int) (g_1 g_2 : NI) (k0 : NI -> NI -> β) : β :=
  q027 z N g_0 g_1 g_2 true g_0 g_1 g_2 (fun q6 q7 => k0 q6 q7)
end Go.AM
set_option maxRecDepth 100000
namespace Go.AM
def q029 {β : Type} (z : β) (N h0_n : Nat) (h0 : NI) (h1_0_n h1_0_l h1_0_c : Nat) (h1_1 h1_2 : Int) (k0 : Int -> NI -> NI -> Int -> Int -> β) : β :=
  q01i z N h0_n h0 h1_0_n h1_0_l h1_0_c h1_1 h1_2 (fun q10 q11 q12 q13 q14 => q01j z N q10 q11 q12 h0_n h0 h1_0_n h1_0_l h1_0_c q13 q14 (fun q15 q16 q17 q18 q19 => k0 q15 q16 q17 q18 q19))
def q02a {β : Type} (z : β) (t9 : Int) (h0_n : Nat) (h0 : NI) (h1_0 : Int) (h1_1 h1_2 h2 : NI)  (kn k0 : β) : β :=
  cond (decide (t9 < 0)) (z) (k0)
def q02b {β : Type} (z : β) (t9 : Int) (h0_n : Nat) (h0 : NI) (h1_0 : Int) (h1_1 h1_2 h2 : NI) : Nat -> β -> β
  | 0, _ => z
  | m + 1, k0 => q02a z t9 h0_n h0 h1_0 h1_1 h1_2 h2 (q02b z t9 h0_n h0 h1_0 h1_1 h1_2 h2 m k0) k0
def q02c {β : Type} (z : β) (i : Int)  (kn k0 : β) : β :=
  cond (decide (i < 0)) (z) (k0)
def q02d {β : Type} (z : β) (i : Int) : Nat -> β -> β
  | 0, _ => z
  | m + 1, k0 => q02c z i (q02d z i m k0) k0
def q02e {β : Type} (z : β) (N : Nat)  (k0 : Bool -> β) : β :=
  q02d z 0 N (k0 true)
def q02f {β : Type} (z : β) (a_r a_o a_n a_l a_c b_r b_o b_n b_l b_c : Nat) (h0 h1 : List (List Int)) (i : Int) (kn : Int -> β) (k0 k1 : β) : β :=
  cond (a_l.ble 9223372036854775807) (cond (decide (i < (↑a_l : Int))) (cond (a_n.beq (h0[a_r]?.getD []).length && (decide (0 <= i) && decide (i < (↑a_l : Int)))) (cond (a_n.beq (h0[a_r]?.getD []).length && (addO a_o i.toNat).blt (h0[a_r]?.getD []).length) (cond (b_n.beq (h1[b_r]?.getD []).length && (decide (0 <= i) && decide (i < (↑b_l : Int)))) (cond (b_n.beq (h1[b_r]?.getD []).length && (addO b_o i.toNat).blt (h1[b_r]?.getD []).length) (cond ((h0[a_r]?.getD [])[addO a_o i.toNat]?.getD 0 != (h1[b_r]?.getD [])[addO b_o i.toNat]?.getD 0) (k0) (cond (fits .i64 (i + 1)) (kn (i + 1)) (z))) (z)) (z)) (z)) (z)) (k1)) (z)
def q02g {β : Type} (z : β) (a_r a_o a_n a_l a_c b_r b_o b_n b_l b_c : Nat) (h0 h1 : List (List Int)) : Nat -> Int -> β -> β -> β
  | 0, _, _, _ => z
  | m + 1, i, k0, k1 => q02f z a_r a_o a_n a_l a_c b_r b_o b_n b_l b_c h0 h1 i (fun i => q02g z a_r a_o a_n a_l a_c b_r b_o b_n b_l b_c h0 h1 m i k0 k1) k0 k1
def q02h {β : Type} (z : β) (N a_r a_o a_n a_l a_c b_r b_o b_n b_l b_c : Nat) (h0 h1 : List (List Int)) (k0 : Bool -> β) : β :=
  cond (a_l.ble 9223372036854775807) (cond (b_l.ble 9223372036854775807) (cond ((↑a_l : Int) != (↑b_l : Int)) (k0 false) (q02g z a_r a_o a_n a_l a_c b_r b_o b_n b_l b_c h0 h1 N 0 (k0 false) (k0 true))) (z)) (z)
end Go.AM
set_option maxRecDepth 100000
namespace Go.AM
end Go.AM
set_option maxRecDepth 100000
namespace Go.AM
end Go.AM
set_option maxRecDepth 100000
namespace Go.AM
end Go.AM
set_option maxRecDepth 100000
namespace Go.AM
end Go.AM
set_option maxRecDepth 100000
namespace Go.AM
def q02i {β : Type} (z : β) (N : Nat) (g_0 : Int) (g_1 g_2 : NI) (k0 : β) : β :=
  k0
def q02j {β : Type} (z : β) (N : Nat) (g_0 : Int) (g_1 g_2 : NI) (k0 : Int -> NI -> NI -> Int -> β) : β :=
  q00h z N g_0 g_1 g_2 (fun q6 => cond (!q6) (k0 0 (fun (x : Nat) => 0) (fun (x : Nat) => 0) 1) (q02i z N g_0 g_1 g_2 (k0 g_0 g_2 g_1 0)))
def q02k {β : Type} (z : β) (N : Nat) (g_0 : Int) (g_1 g_2 : NI) (k0 : Int -> NI -> NI -> Int -> β) : β :=
  q02j z N g_0 g_1 g_2 (fun q6 q7 q8 q9 => k0 q6 q7 q8 q9)
def q02l {β : Type} (z : β) (N : Nat) (g_0 : Int) (g_1 g_2 : NI) (k0 : Bool -> Int -> β) : β :=
  q00h z N g_0 g_1 g_2 (fun q6 => cond (!q6) (k0 false 1) (q01z z N g_0 g_1 g_2 (fun q7 => k0 q7 0)))
def q02m {β : Type} (z : β) (N : Nat) (g_0 : Int) (g_1 g_2 : NI) (k0 : Bool -> Int -> β) : β :=
  q02l z N g_0 g_1 g_2 (fun q6 q7 => k0 q6 q7)
end Go.AM
set_option maxRecDepth 100000
namespace Go.AM
def q02n {β : Type} (z : β) (out_n out_l out_c : Nat) (t15 h0_0 : Int) (h0_1 h0_2 h1 : NI) (t16 : Int) (h2 : List (List Int)) (h3 : List (Nat × Nat)) (kn : Int -> (List (List Int)) -> (List (Nat × Nat)) -> β) (k0 : (List (List Int)) -> (List (Nat × Nat)) -> β) : β :=
  cond (decide (t16 < t15)) (cond (decide (0 <= t16) && decide (t16 < (↑8 : Int))) (cond (t16.toNat.blt 8) (cond (decide (0 <= t16) && decide (t16 < (↑8 : Int))) (cond (t16.toNat.blt 8) (cond (out_n.beq h3.length && (decide (0 <= h1 t16.toNat) && decide (h1 t16.toNat < (↑out_l : Int)))) (cond (out_n.beq h3.length && (h1 t16.toNat).toNat.blt h3.length) (cond ((h3[(h1 t16.toNat).toNat]?.getD (0, 0)).snd.beq (h2[(h3[(h1 t16.toNat).toNat]?.getD (0, 0)).fst]?.getD []).length && true) (cond (((h3[(h1 t16.toNat).toNat]?.getD (0, 0)).snd + 1).ble 1099511627776 && (((h3[(h1 t16.toNat).toNat]?.getD (0, 0)).snd + 1) * 8).ble 1099511627776) (cond (((h3[(h1 t16.toNat).toNat]?.getD (0, 0)).snd + 1).ble (h3[(h1 t16.toNat).toNat]?.getD (0, 0)).snd) (cond ((h3[(h1 t16.toNat).toNat]?.getD (0, 0)).snd.beq (h2[(h3[(h1 t16.toNat).toNat]?.getD (0, 0)).fst]?.getD []).length && (0 + (h3[(h1 t16.toNat).toNat]?.getD (0, 0)).snd + 1).ble (h2[(h3[(h1 t16.toNat).toNat]?.getD (0, 0)).fst]?.getD []).length) (cond (out_n.beq h3.length && (decide (0 <= h1 t16.toNat) && decide (h1 t16.toNat < (↑out_l : Int)))) (cond (out_n.beq h3.length && (h1 t16.toNat).toNat.blt h3.length && (((h3[(h1 t16.toNat).toNat]?.getD (0, 0)).snd + 1).beq (h3[(h1 t16.toNat).toNat]?.getD (0, 0)).snd && (h3[(h1 t16.toNat).toNat]?.getD (0, 0)).snd.beq ((h3[(h1 t16.toNat).toNat]?.getD (0, 0)).snd + 1))) (cond (fits .i64 (t16 + 1)) (kn (t16 + 1) (h2.set (h3[(h1 t16.toNat).toNat]?.getD (0, 0)).fst (List.take (0 + (h3[(h1 t16.toNat).toNat]?.getD (0, 0)).snd) (h2[(h3[(h1 t16.toNat).toNat]?.getD (0, 0)).fst]?.getD []) ++ (fromTo ((List.replicate 1 0).set 0 t16) 0 1 ++ List.drop (0 + (h3[(h1 t16.toNat).toNat]?.getD (0, 0)).snd + 1) (h2[(h3[(h1 t16.toNat).toNat]?.getD (0, 0)).fst]?.getD [])))) (h3.set (h1 t16.toNat).toNat ((h3[(h1 t16.toNat).toNat]?.getD (0, 0)).fst, (h3[(h1 t16.toNat).toNat]?.getD (0, 0)).snd + 1))) (z)) (z)) (z)) (z)) (cond ((h3[(h1 t16.toNat).toNat]?.getD (0, 0)).snd.beq (h2[(h3[(h1 t16.toNat).toNat]?.getD (0, 0)).fst]?.getD []).length) (cond (out_n.beq h3.length && (decide (0 <= h1 t16.toNat) && decide (h1 t16.toNat < (↑out_l : Int)))) (cond (out_n.beq h3.length && (h1 t16.toNat).toNat.blt h3.length && (((h3[(h1 t16.toNat).toNat]?.getD (0, 0)).snd + 1).beq (h2[(h3[(h1 t16.toNat).toNat]?.getD (0, 0)).fst]?.getD [] ++ fromTo ((List.replicate 1 0).set 0 t16) 0 1).length && ((h3[(h1 t16.toNat).toNat]?.getD (0, 0)).snd + 1).beq ((h3[(h1 t16.toNat).toNat]?.getD (0, 0)).snd + 1))) (cond (fits .i64 (t16 + 1)) (kn (t16 + 1) (h2.set (h3[(h1 t16.toNat).toNat]?.getD (0, 0)).fst (h2[(h3[(h1 t16.toNat).toNat]?.getD (0, 0)).fst]?.getD [] ++ fromTo ((List.replicate 1 0).set 0 t16) 0 1)) (h3.set (h1 t16.toNat).toNat ((h3[(h1 t16.toNat).toNat]?.getD (0, 0)).fst, (h3[(h1 t16.toNat).toNat]?.getD (0, 0)).snd + 1))) (z)) (z)) (z)) (z))) (z)) (z)) (z)) (z)) (z)) (z)) (z)) (z)) (k0 h2 h3)
def q02o {β : Type} (z : β) (out_n out_l out_c : Nat) (t15 h0_0 : Int) (h0_1 h0_2 h1 : NI) : Nat -> Int -> (List (List Int)) -> (List (Nat × Nat)) -> ((List (List Int)) -> (List (Nat × Nat)) -> β) -> β
  | 0, _, _, _, _ => z
  | m + 1, t16, h2, h3, k0 => q02n z out_n out_l out_c t15 h0_0 h0_1 h0_2 h1 t16 h2 h3 (fun t16 h2 h3 => q02o z out_n out_l out_c t15 h0_0 h0_1 h0_2 h1 m t16 h2 h3 k0) k0
def q02p {β : Type} (z : β) (N : Nat) (g_0 : Int) (g_1 g_2 : NI) (k0 : Nat -> Nat -> Nat -> (List (Nat × Nat)) -> (List (List Int)) -> β) : β :=
  q01y z N g_0 g_1 g_2 (fun q6 q7 => cond (decide (0 <= q7) && decide (q7 <= q7) && decide (q7 <= 1073741824) && true && true) (q008 z N g_0 g_1 g_2 (q02o z q7.toNat q7.toNat q7.toNat g_0 g_0 g_1 g_2 q6 N 0 (List.replicate q7.toNat []) (List.map (fun (i : Nat) => (i, 0)) (List.range q7.toNat)) (fun q8 q9 => k0 q7.toNat q7.toNat q7.toNat q9 q8))) (z))
def q02q {β : Type} (z : β) (N : Nat) (g_0 : Int) (g_1 g_2 : NI) (k0 : Int -> β) (k1 : Nat -> Nat -> Nat -> Int -> (List (Nat × Nat)) -> (List (List Int)) -> β) : β :=
  q00h z N g_0 g_1 g_2 (fun q6 => cond (!q6) (k0 1) (q02p z N g_0 g_1 g_2 (fun q7 q8 q9 q10 q11 => k1 q7 q8 q9 0 q10 q11)))
def q02r {β : Type} (z : β) (N : Nat) (g_0 : Int) (g_1 g_2 : NI) (k0 : Int -> β) (k1 : Nat -> Nat -> Nat -> Int -> (List (Nat × Nat)) -> (List (List Int)) -> β) : β :=
  q02q z N g_0 g_1 g_2 (fun q6 => k0 q6) (fun q6 q7 q8 q9 q10 q11 => k1 q6 q7 q8 q9 q10 q11)
def q02s {β : Type} (z : β) (count : Int) (out_n out_l out_c : Nat) (k h0_0 : Int) (h0_1 h0_2 h1 : NI) (h2 : List (List Int)) (h3 : List (Nat × Nat)) (own_n own_l own_c : Nat) (i : Int) (h4 : List Int) (kn : Nat -> Nat -> Nat -> Int -> (List Int) -> β) (k0 : Nat -> Nat -> Nat -> (List Int) -> β) : β :=
  cond (decide (i < h0_0)) (cond (decide (0 <= i) && decide (i < (↑8 : Int))) (cond (i.toNat.blt 8) (cond (h1 i.toNat == k) (cond (own_n.beq h4.length && true) (cond ((own_l + 1).ble 1099511627776 && ((own_l + 1) * 8).ble 1099511627776) (cond ((own_l + 1).ble own_c) (cond (own_n.beq h4.length && (0 + own_l + 1).ble h4.length) (cond (fits .i64 (i + 1)) (kn own_n (own_l + 1) own_c (i + 1) (List.take (0 + own_l) h4 ++ (fromTo ((List.replicate 1 0).set 0 i) 0 1 ++ List.drop (0 + own_l + 1) h4))) (z)) (z)) (cond (own_l.beq h4.length) (cond (fits .i64 (i + 1)) (kn ((h4 ++ fromTo ((List.replicate 1 0).set 0 i) 0 1).length) (own_l + 1) (own_l + 1) (i + 1) (h4 ++ fromTo ((List.replicate 1 0).set 0 i) 0 1)) (z)) (z))) (z)) (z)) (cond (fits .i64 (i + 1)) (kn own_n own_l own_c (i + 1) h4) (z))) (z)) (z)) (k0 own_n own_l own_c h4)
def q02t {β : Type} (z : β) (count : Int) (out_n out_l out_c : Nat) (k h0_0 : Int) (h0_1 h0_2 h1 : NI) (h2 : List (List Int)) (h3 : List (Nat × Nat)) : Nat -> Nat -> Nat -> Nat -> Int -> (List Int) -> (Nat -> Nat -> Nat -> (List Int) -> β) -> β
  | 0, _, _, _, _, _, _ => z
  | m + 1, own_n, own_l, own_c, i, h4, k0 => q02s z count out_n out_l out_c k h0_0 h0_1 h0_2 h1 h2 h3 own_n own_l own_c i h4 (fun own_n own_l own_c i h4 => q02t z count out_n out_l out_c k h0_0 h0_1 h0_2 h1 h2 h3 m own_n own_l own_c i h4 k0) k0
def q02u {β : Type} (z : β) (N : Nat) (count h0_0 : Int) (h0_1 h0_2 h1 : NI) (out_n out_l out_c : Nat) (k : Int) (h2 : List (List Int)) (h3 : List (Nat × Nat)) (kn : Nat -> Nat -> Nat -> Int -> (List (List Int)) -> (List (Nat × Nat)) -> β) (k0 : Nat -> Nat -> Nat -> (List (List Int)) -> (List (Nat × Nat)) -> β) : β :=
  cond (decide (k < count)) (q02t z count out_n out_l out_c k h0_0 h0_1 h0_2 h1 h2 h3 N 0 0 0 0 (List.replicate 0 0) (fun q15 q16 q17 q18 => cond (q15.beq q18.length && (q16.beq q15 && (q17.beq q16 && true))) (cond (out_n.beq h3.length && true) (cond ((out_l + 1).ble 1099511627776 && ((out_l + 1) * 24).ble 1099511627776) (cond ((out_l + 1).ble out_c) (cond (out_n.beq h3.length && (0 + out_l + 1).ble h3.length) (cond (fits .i64 (k + 1)) (kn out_n (out_l + 1) out_c (k + 1) (h2 ++ [q18]) (List.take (0 + out_l) h3 ++ ([(h2.length, q16)] ++ List.drop (0 + out_l + 1) h3))) (z)) (z)) (cond (out_l.beq h3.length) (cond (fits .i64 (k + 1)) (kn ((h3 ++ [(h2.length, q16)]).length) (out_l + 1) (out_l + 1) (k + 1) (h2 ++ [q18]) (h3 ++ [(h2.length, q16)])) (z)) (z))) (z)) (z)) (z))) (k0 out_n out_l out_c h2 h3)
def q02v {β : Type} (z : β) (N : Nat) (count h0_0 : Int) (h0_1 h0_2 h1 : NI) : Nat -> Nat -> Nat -> Nat -> Int -> (List (List Int)) -> (List (Nat × Nat)) -> (Nat -> Nat -> Nat -> (List (List Int)) -> (List (Nat × Nat)) -> β) -> β
  | 0, _, _, _, _, _, _, _ => z
  | m + 1, out_n, out_l, out_c, k, h2, h3, k0 => q02u z N count h0_0 h0_1 h0_2 h1 out_n out_l out_c k h2 h3 (fun out_n out_l out_c k h2 h3 => q02v z N count h0_0 h0_1 h0_2 h1 m out_n out_l out_c k h2 h3 k0) k0
def q02w {β : Type} (z : β) (N : Nat) (g_0 : Int) (g_1 g_2 : NI) (k0 : Int -> β) (k1 : Nat -> Nat -> Nat -> Int -> (List (Nat × Nat)) -> (List (List Int)) -> β) : β :=
  q007 z N g_0 g_1 g_2 (fun q6 => cond (!q6) (k0 1) (q01r z N g_0 g_1 g_2 (fun q7 q8 => q02v z N q8 g_0 g_1 g_2 q7 N 0 0 0 0 (List.replicate 0 []) (List.map (fun (i : Nat) => (i, 0)) (List.range 0)) (fun q9 q10 q11 q12 q13 => k1 q9 q10 q11 0 q13 q12))))
def q02x {β : Type} (z : β) (N : Nat) (g_0 : Int) (g_1 g_2 : NI) (k0 : Bool -> Int -> β) : β :=
  q007 z N g_0 g_1 g_2 (fun q6 => cond (!q6) (k0 false 1) (q01r z N g_0 g_1 g_2 (fun q7 q8 => k0 (q8 == 1) 0)))
def q02y {β : Type} (z : β) (N : Nat) (g_0 : Int) (g_1 g_2 : NI) (k0 : Int -> NI -> NI -> Int -> β) : β :=
  q00h z N g_0 g_1 g_2 (fun q6 => cond (!q6) (k0 0 (fun (x : Nat) => 0) (fun (x : Nat) => 0) 1) (q028 z N g_0 g_1 g_2 (fun q7 q8 => k0 g_0 q7 q8 0)))
def q02z {β : Type} (z : β) (N : Nat) (g_0 : Int) (g_1 g_2 : NI) (k0 : Int -> NI -> NI -> Int -> β) : β :=
  q02y z N g_0 g_1 g_2 (fun q6 q7 q8 q9 => k0 q6 q7 q8 q9)
def q030 {β : Type} (z : β) (n h0_0 h1_0 : Int) (h1_1 h1_2 : NI) (h2_0 : Int) (h2_1 h2_2 : NI) (i : Int) (h0_1 h0_2 : NI) (kn : Int -> NI -> NI -> β) (k0 : NI -> NI -> β) : β :=
  cond (decide (i < h1_0)) (cond (fits .i64 (n + i)) (cond (decide (0 <= i) && decide (i < (↑8 : Int))) (cond (i.toNat.blt 8) (cond (decide (0 <= n + i) && decide (n + i < (↑8 : Int))) (cond ((n + i).toNat.blt 8) (cond (fits .i64 (n + i)) (cond (decide (0 <= i) && decide (i < (↑8 : Int))) (cond (i.toNat.blt 8) (cond (decide (0 <= n + i) && decide (n + i < (↑8 : Int))) (cond ((n + i).toNat.blt 8) (cond (fits .i64 (i + 1)) (kn (i + 1) (upd h0_1 (n + i).toNat (wrapU .u8 (wrapU .u8 n + h1_1 i.toNat))) (upd h0_2 (n + i).toNat (wrapU .u8 (wrapU .u8 n + h1_2 i.toNat)))) (z)) (z)) (z)) (z)) (z)) (z)) (z)) (z)) (z)) (z)) (z)) (k0 h0_1 h0_2)
def q031 {β : Type} (z : β) (n h0_0 h1_0 : Int) (h1_1 h1_2 : NI) (h2_0 : Int) (h2_1 h2_2 : NI) : Nat -> Int -> NI -> NI -> (NI -> NI -> β) -> β
  | 0, _, _, _, _ => z
  | m + 1, i, h0_1, h0_2, k0 => q030 z n h0_0 h1_0 h1_1 h1_2 h2_0 h2_1 h2_2 i h0_1 h0_2 (fun i h0_1 h0_2 => q031 z n h0_0 h1_0 h1_1 h1_2 h2_0 h2_1 h2_2 m i h0_1 h0_2 k0) k0
def q032 {β : Type} (z : β) (N : Nat) (g_0 : Int) (g_1 g_2 : NI) (h_0 : Int) (h_1 h_2 : NI) (k0 : Int -> NI -> NI -> Int -> β) : β :=
  q007 z N g_0 g_1 g_2 (fun q9 => cond (!q9) (k0 0 (fun (x : Nat) => 0) (fun (x : Nat) => 0) 1) (q007 z N h_0 h_1 h_2 (fun q10 => cond (!q10) (k0 0 (fun (x : Nat) => 0) (fun (x : Nat) => 0) 1) (cond (fits .i64 (g_0 + h_0)) (cond (decide (8 < g_0 + h_0)) (k0 0 (fun (x : Nat) => 0) (fun (x : Nat) => 0) 3) (q031 z g_0 g_0 h_0 h_1 h_2 0 (fun (x : Nat) => 0) (fun (x : Nat) => 0) N 0 g_1 g_2 (fun q11 q12 => cond (fits .i64 (g_0 + h_0)) (k0 (g_0 + h_0) q11 q12 0) (z)))) (z)))))
def q033 {β : Type} (z : β) (N : Nat) (t34 h0_0 : Int) (h0_1 h0_2 : NI) (h1_0 : Int) (h1_1 h1_2 : NI) (h2_0 : Int) (h2_1 h2_2 : NI) (h3_0 t35 : Int) (h3_1 h3_2 : NI) (kn : Int -> NI -> NI -> β) (k0 : NI -> NI -> β) : β :=
  cond (decide (t35 < t34)) (q008 z N h0_0 h0_1 h0_2 (cond (fits .i64 (h0_0 + t35)) (cond (decide (0 <= t35) && decide (t35 < (↑8 : Int))) (cond (t35.toNat.blt 8) (cond (decide (0 <= h0_0 + t35) && decide (h0_0 + t35 < (↑8 : Int))) (cond ((h0_0 + t35).toNat.blt 8) (q008 z N h0_0 h0_1 h0_2 (cond (fits .i64 (h0_0 + t35)) (cond (decide (0 <= t35) && decide (t35 < (↑8 : Int))) (cond (t35.toNat.blt 8) (cond (decide (0 <= h0_0 + t35) && decide (h0_0 + t35 < (↑8 : Int))) (cond ((h0_0 + t35).toNat.blt 8) (cond (fits .i64 (t35 + 1)) (kn (t35 + 1) (upd h3_1 (h0_0 + t35).toNat (wrapU .u8 (h1_1 t35.toNat + wrapU .u8 h0_0))) (upd h3_2 (h0_0 + t35).toNat (wrapU .u8 (h1_2 t35.toNat + wrapU .u8 h0_0)))) (z)) (z)) (z)) (z)) (z)) (z))) (z)) (z)) (z)) (z)) (z))) (k0 h3_1 h3_2)
def q034 {β : Type} (z : β) (N : Nat) (t34 h0_0 : Int) (h0_1 h0_2 : NI) (h1_0 : Int) (h1_1 h1_2 : NI) (h2_0 : Int) (h2_1 h2_2 : NI) (h3_0 : Int) : Nat -> Int -> NI -> NI -> (NI -> NI -> β) -> β
  | 0, _, _, _, _ => z
  | m + 1, t35, h3_1, h3_2, k0 => q033 z N t34 h0_0 h0_1 h0_2 h1_0 h1_1 h1_2 h2_0 h2_1 h2_2 h3_0 t35 h3_1 h3_2 (fun t35 h3_1 h3_2 => q034 z N t34 h0_0 h0_1 h0_2 h1_0 h1_1 h1_2 h2_0 h2_1 h2_2 h3_0 m t35 h3_1 h3_2 k0) k0
def q035 {β : Type} (z : β) (N : Nat) (g_0 : Int) (g_1 g_2 : NI) (a1_0 : Int) (a1_1 a1_2 : NI) (k0 : Int -> NI -> NI -> Int -> β) : β :=
  q00h z N g_0 g_1 g_2 (fun q9 => cond (!q9) (k0 0 (fun (x : Nat) => 0) (fun (x : Nat) => 0) 1) (q00h z N a1_0 a1_1 a1_2 (fun q10 => cond (!q10) (k0 0 (fun (x : Nat) => 0) (fun (x : Nat) => 0) 1) (cond (fits .i64 (g_0 + a1_0)) (cond (decide (8 < g_0 + a1_0)) (k0 0 (fun (x : Nat) => 0) (fun (x : Nat) => 0) 3) (cond (fits .i64 (g_0 + a1_0)) (q008 z N a1_0 a1_1 a1_2 (q034 z N a1_0 g_0 g_1 g_2 a1_0 a1_1 a1_2 0 (fun (x : Nat) => 0) (fun (x : Nat) => 0) (g_0 + a1_0) N 0 g_1 g_2 (fun q11 q12 => k0 (g_0 + a1_0) q11 q12 0))) (z))) (z)))))
def q036 {β : Type} (z : β) (p q h0_0 : Int) (h0_1 h0_2 : NI) (h1_0 i : Int) (h1_1 h1_2 : NI) (kn : Int -> NI -> NI -> β) (k0 : NI -> NI -> β) : β :=
  cond (fits .i64 (p + q)) (cond (decide (i < p + q)) (cond (decide (0 <= i) && decide (i < (↑8 : Int))) (cond (i.toNat.blt 8) (cond (fits .i64 (i + p)) (cond (fits .i64 (p + q)) (cond (!p + q == 0) (cond (decide (0 <= i) && decide (i < (↑8 : Int))) (cond (i.toNat.blt 8) (cond (fits .i64 (i + 1)) (kn (i + 1) (upd h1_1 i.toNat (wrapU .u8 i)) (upd h1_2 i.toNat (wrapU .u8 ((i + p).tmod (p + q))))) (z)) (z)) (z)) (z)) (z)) (z)) (z)) (z)) (k0 h1_1 h1_2)) (z)
def q037 {β : Type} (z : β) (p q h0_0 : Int) (h0_1 h0_2 : NI) (h1_0 : Int) : Nat -> Int -> NI -> NI -> (NI -> NI -> β) -> β
  | 0, _, _, _, _ => z
  | m + 1, i, h1_1, h1_2, k0 => q036 z p q h0_0 h0_1 h0_2 h1_0 i h1_1 h1_2 (fun i h1_1 h1_2 => q037 z p q h0_0 h0_1 h0_2 h1_0 m i h1_1 h1_2 k0) k0
def q038 {β : Type} (z : β) (N : Nat) (p q : Int) (k0 : Int -> NI -> NI -> Int -> β) : β :=
  q000 z N p 1 8 (fun q5 => cond (!q5) (k0 0 (fun (x : Nat) => 0) (fun (x : Nat) => 0) 2) (cond (fits .i64 (8 - p)) (q000 z N q 1 (8 - p) (fun q6 => cond (!q6) (k0 0 (fun (x : Nat) => 0) (fun (x : Nat) => 0) 2) (cond (fits .i64 (p + q)) (q037 z p q 0 (fun (x : Nat) => 0) (fun (x : Nat) => 0) (p + q) N 0 (fun (x : Nat) => 0) (fun (x : Nat) => 0) (fun q7 q8 => k0 (p + q) q7 q8 0)) (z)))) (z)))
def q039 {β : Type} (z : β) (p q t29 h0_0 : Int) (h0_1 h0_2 : NI) (h1_0 t30 : Int) (h1_1 h1_2 : NI) (kn : Int -> NI -> NI -> β) (k0 : NI -> NI -> β) : β :=
  cond (decide (t30 < t29)) (cond (fits .i64 (t30 + p)) (cond (fits .i64 (p + q)) (cond (!p + q == 0) (cond (decide (0 <= t30) && decide (t30 < (↑8 : Int))) (cond (t30.toNat.blt 8) (cond (decide (0 <= t30) && decide (t30 < (↑8 : Int))) (cond (t30.toNat.blt 8) (cond (fits .i64 (t30 + 1)) (kn (t30 + 1) (upd h1_1 t30.toNat (wrapU .u8 t30)) (upd h1_2 t30.toNat (wrapU .u8 ((t30 + p).tmod (p + q))))) (z)) (z)) (z)) (z)) (z)) (z)) (z)) (z)) (k0 h1_1 h1_2)
def q03a {β : Type} (z : β) (p q t29 h0_0 : Int) (h0_1 h0_2 : NI) (h1_0 : Int) : Nat -> Int -> NI -> NI -> (NI -> NI -> β) -> β
  | 0, _, _, _, _ => z
  | m + 1, t30, h1_1, h1_2, k0 => q039 z p q t29 h0_0 h0_1 h0_2 h1_0 t30 h1_1 h1_2 (fun t30 h1_1 h1_2 => q03a z p q t29 h0_0 h0_1 h0_2 h1_0 m t30 h1_1 h1_2 k0) k0
def q03b {β : Type} (z : β) (N : Nat) (p q : Int) (k0 : Int -> NI -> NI -> Int -> β) : β :=
  q001 z N p 1 8 (fun q5 => cond (!q5) (k0 0 (fun (x : Nat) => 0) (fun (x : Nat) => 0) 2) (q001 z N q 1 8 (fun q6 => cond (!q6) (k0 0 (fun (x : Nat) => 0) (fun (x : Nat) => 0) 2) (cond (fits .i64 (p + q)) (cond (decide (8 < p + q)) (k0 0 (fun (x : Nat) => 0) (fun (x : Nat) => 0) 2) (cond (fits .i64 (p + q)) (cond (fits .i64 (p + q)) (q03a z p q (p + q) 0 (fun (x : Nat) => 0) (fun (x : Nat) => 0) (p + q) N 0 (fun (x : Nat) => 0) (fun (x : Nat) => 0) (fun q7 q8 => k0 (p + q) q7 q8 0)) (z)) (z))) (z)))))
def q03c {β : Type} (z : β) (N code_n code_l code_c h0_n : Nat) (h0 : NI) (k0 : Int -> NI -> NI -> β) : β :=
  q012 z N code_n code_l code_c h0_n h0 (fun q8 q9 => q029 z N h0_n h0 code_n code_l code_c q8 q9 (fun q10 q11 q12 q13 q14 => k0 q10 q11 q12))
def q03d {β : Type} (z : β) (N h0_n : Nat) (h0 : NI) (h1_0_n h1_0_l h1_0_c : Nat) (h1_1 h1_2 : Int) (h2 : List Int) (k0 : Int -> Int -> Int -> β) : β :=
  q013 z N 2 h0_n h0 h1_0_n h1_0_l h1_0_c h1_1 h1_2 (fun q11 q12 q13 => cond (Nat.beq 2 h2.length && (decide (0 <= q11) && decide (q11 < (↑2 : Int)))) (cond (Nat.beq 2 h2.length && q11.toNat.blt h2.length) (k0 (h2[q11.toNat]?.getD 0) q12 q13) (z)) (z))
def q03e {β : Type} (z : β) (N code_n code_l code_c h0_n : Nat) (h0 : NI) (k0 : Int -> NI -> NI -> Int -> Int -> β) : β :=
  q012 z N code_n code_l code_c h0_n h0 (fun q8 q9 => q029 z N h0_n h0 code_n code_l code_c q8 q9 (fun q10 q11 q12 q13 q14 => q013 z N 17 h0_n h0 code_n code_l code_c q13 q14 (fun q15 q16 q17 => cond (fits .i64 (q15 - 8)) (q013 z N 17 h0_n h0 code_n code_l code_c q16 q17 (fun q18 q19 q20 => cond (fits .i64 (q18 - 8)) (q013 z N 203 h0_n h0 code_n code_l code_c q19 q20 (fun q21 q22 q23 => cond (fits .i64 (q21 - 101)) (q03d z N h0_n h0 code_n code_l code_c q22 q23 (((List.replicate 2 0).set 0 (q18 - 8)).set 1 (q21 - 101)) (fun q24 q25 q26 => k0 q10 q11 q12 (q15 - 8) q24)) (z))) (z))) (z))))
def q03f {β : Type} (z : β) (N code_n code_l code_c h0_n : Nat) (h0 : NI) (k0 : Int -> NI -> NI -> Int -> NI -> NI -> β) : β :=
  q012 z N code_n code_l code_c h0_n h0 (fun q8 q9 => q013 z N 6 h0_n h0 code_n code_l code_c q8 q9 (fun q10 q11 q12 => cond (q10 == 0) (q029 z N h0_n h0 code_n code_l code_c q11 q12 (fun q13 q14 q15 q16 q17 => q029 z N h0_n h0 code_n code_l code_c q16 q17 (fun q18 q19 q20 q21 q22 => k0 q13 q14 q15 q18 q19 q20))) (q013 z N 3 h0_n h0 code_n code_l code_c q11 q12 (fun q13 q14 q15 => cond (fits .i64 (2 + q13)) (q01e z N (2 + q13) h0_n h0 code_n code_l code_c q14 q15 (fun q16 q17 q18 q19 => q01j z N (2 + q13) q16 q17 h0_n h0 code_n code_l code_c q18 q19 (fun q20 q21 q22 q23 q24 => q013 z N 3 h0_n h0 code_n code_l code_c q23 q24 (fun q25 q26 q27 => cond (fits .i64 (2 + q25)) (q01e z N (2 + q25) h0_n h0 code_n code_l code_c q26 q27 (fun q28 q29 q30 q31 => q01j z N (2 + q25) q28 q29 h0_n h0 code_n code_l code_c q30 q31 (fun q32 q33 q34 q35 q36 => k0 q20 q21 q22 q32 q33 q34))) (z))))) (z)))))
def q03g {β : Type} (z : β) (N h0_n : Nat) (h0 : NI) (h1_0_n h1_0_l h1_0_c : Nat) (h1_1 h1_2 : Int) (h2 : List Int) (k0 : Int -> Int -> Int -> β) : β :=
  q013 z N 4 h0_n h0 h1_0_n h1_0_l h1_0_c h1_1 h1_2 (fun q11 q12 q13 => cond (Nat.beq 4 h2.length && (decide (0 <= q11) && decide (q11 < (↑4 : Int)))) (cond (Nat.beq 4 h2.length && q11.toNat.blt h2.length) (k0 (h2[q11.toNat]?.getD 0) q12 q13) (z)) (z))
def q03h {β : Type} (z : β) (N : Nat) (most : Int) (h0_n : Nat) (h0 : NI) (h1_0_n h1_0_l h1_0_c : Nat) (h1_1 h1_2 : Int) (k0 : Int -> Int -> Int -> β) : β :=
  q013 z N 14 h0_n h0 h1_0_n h1_0_l h1_0_c h1_1 h1_2 (fun q11 q12 q13 => cond (q11 == 0) (cond (fits .i64 (most + 1)) (q03g z N h0_n h0 h1_0_n h1_0_l h1_0_c q12 q13 (((((List.replicate 4 0).set 0 (-1)).set 1 (most + 1)).set 2 1099511627776).set 3 (-4611686018427387904)) (fun q14 q15 q16 => k0 q14 q15 q16)) (z)) (cond (fits .i64 (most + 1)) (q013 z N (most + 1) h0_n h0 h1_0_n h1_0_l h1_0_c q12 q13 (fun q14 q15 q16 => k0 q14 q15 q16)) (z)))
def q03i {β : Type} (z : β) (N code_n code_l code_c h0_n : Nat) (h0 : NI) (k0 : Int -> Int -> β) : β :=
  q012 z N code_n code_l code_c h0_n h0 (fun q8 q9 => q03h z N 6 h0_n h0 code_n code_l code_c q8 q9 (fun q10 q11 q12 => cond (fits .i64 (1 + q10)) (q03h z N 5 h0_n h0 code_n code_l code_c q11 q12 (fun q13 q14 q15 => cond (fits .i64 (1 + q13)) (k0 (1 + q10) (1 + q13)) (z))) (z)))
def q03j {β : Type} (z : β) (N a_n a_l a_c b_n b_l b_c : Nat) (h0 h1 : List (Nat × Nat)) (h2 h3 : List (List Int)) (i : Int) (kn : Int -> β) (k0 k1 : β) : β :=
  cond (a_l.ble 9223372036854775807) (cond (decide (i < (↑a_l : Int))) (cond (a_n.beq h0.length && (decide (0 <= i) && decide (i < (↑a_l : Int)))) (cond (a_n.beq h0.length && i.toNat.blt h0.length) (cond (b_n.beq h1.length && (decide (0 <= i) && decide (i < (↑b_l : Int)))) (cond (b_n.beq h1.length && i.toNat.blt h1.length) (q02h z N ((h0[i.toNat]?.getD (0, 0)).fst) 0 ((h0[i.toNat]?.getD (0, 0)).snd) ((h0[i.toNat]?.getD (0, 0)).snd) ((h0[i.toNat]?.getD (0, 0)).snd) ((h1[i.toNat]?.getD (0, 0)).fst) 0 ((h1[i.toNat]?.getD (0, 0)).snd) ((h1[i.toNat]?.getD (0, 0)).snd) ((h1[i.toNat]?.getD (0, 0)).snd) h2 h3 (fun q15 => cond (!q15) (k0) (cond (fits .i64 (i + 1)) (kn (i + 1)) (z)))) (z)) (z)) (z)) (z)) (k1)) (z)
def q03k {β : Type} (z : β) (N a_n a_l a_c b_n b_l b_c : Nat) (h0 h1 : List (Nat × Nat)) (h2 h3 : List (List Int)) : Nat -> Int -> β -> β -> β
  | 0, _, _, _ => z
  | m + 1, i, k0, k1 => q03j z N a_n a_l a_c b_n b_l b_c h0 h1 h2 h3 i (fun i => q03k z N a_n a_l a_c b_n b_l b_c h0 h1 h2 h3 m i k0 k1) k0 k1
def q03l {β : Type} (z : β) (N a_n a_l a_c b_n b_l b_c : Nat) (h0 h1 : List (Nat × Nat)) (h2 h3 : List (List Int)) (k0 : Bool -> β) : β :=
  cond (a_l.ble 9223372036854775807) (cond (b_l.ble 9223372036854775807) (cond ((↑a_l : Int) != (↑b_l : Int)) (k0 false) (q03k z N a_n a_l a_c b_n b_l b_c h0 h1 h2 h3 N 0 (k0 false) (k0 true))) (z)) (z)
def q03m {β : Type} (z : β) (code_n code_l code_c t4_n t4_l t4_c : Nat) (t8 : Bool) (t14 : Int) (h0_n : Nat) (h0 : NI) (h1_0 : Int) (h1_1 h1_2 : NI) (h2 : List (Nat × Nat)) (h3 : List (List Int)) (h4 : List (Nat × Nat)) (h5 : List (List Int)) (t12 t15 : Int) (h6 : Nat -> Bool) (kn : Int -> Int -> (Nat -> Bool) -> β) (k0 : (Nat -> Bool) -> β) (k1 : Int -> (Nat -> Bool) -> β) : β :=
  cond (t4_n.beq h2.length && (decide (0 <= t14) && decide (t14 < (↑t4_l : Int)))) (cond (t4_n.beq h2.length && t14.toNat.blt h2.length) (cond ((h2[t14.toNat]?.getD (0, 0)).snd.ble 9223372036854775807) (cond (decide (t15 < (↑(h2[t14.toNat]?.getD (0, 0)).snd : Int))) (cond (t4_n.beq h2.length && (decide (0 <= t14) && decide (t14 < (↑t4_l : Int)))) (cond (t4_n.beq h2.length && t14.toNat.blt h2.length) (cond ((h2[t14.toNat]?.getD (0, 0)).snd.beq (h3[(h2[t14.toNat]?.getD (0, 0)).fst]?.getD []).length && (decide (0 <= t15) && decide (t15 < (↑(h2[t14.toNat]?.getD (0, 0)).snd : Int)))) (cond ((h2[t14.toNat]?.getD (0, 0)).snd.beq (h3[(h2[t14.toNat]?.getD (0, 0)).fst]?.getD []).length && t15.toNat.blt (h3[(h2[t14.toNat]?.getD (0, 0)).fst]?.getD []).length) (cond (decide ((h3[(h2[t14.toNat]?.getD (0, 0)).fst]?.getD [])[t15.toNat]?.getD 0 < 0)) (k0 h6) (cond (decide (h1_0 <= (h3[(h2[t14.toNat]?.getD (0, 0)).fst]?.getD [])[t15.toNat]?.getD 0)) (k0 h6) (cond (decide (0 <= (h3[(h2[t14.toNat]?.getD (0, 0)).fst]?.getD [])[t15.toNat]?.getD 0) && decide ((h3[(h2[t14.toNat]?.getD (0, 0)).fst]?.getD [])[t15.toNat]?.getD 0 < (↑8 : Int))) (cond (((h3[(h2[t14.toNat]?.getD (0, 0)).fst]?.getD [])[t15.toNat]?.getD 0).toNat.blt 8) (cond (h6 ((h3[(h2[t14.toNat]?.getD (0, 0)).fst]?.getD [])[t15.toNat]?.getD 0).toNat) (k0 h6) (cond (decide (0 <= (h3[(h2[t14.toNat]?.getD (0, 0)).fst]?.getD [])[t15.toNat]?.getD 0) && decide ((h3[(h2[t14.toNat]?.getD (0, 0)).fst]?.getD [])[t15.toNat]?.getD 0 < (↑8 : Int))) (cond (((h3[(h2[t14.toNat]?.getD (0, 0)).fst]?.getD [])[t15.toNat]?.getD 0).toNat.blt 8) (cond (fits .i64 (t12 + 1)) (cond (fits .i64 (t15 + 1)) (kn (t12 + 1) (t15 + 1) (upd h6 ((h3[(h2[t14.toNat]?.getD (0, 0)).fst]?.getD [])[t15.toNat]?.getD 0).toNat true)) (z)) (z)) (z)) (z))) (z)) (z)))) (z)) (z)) (z)) (z)) (k1 t12 h6)) (z)) (z)) (z)
def q03n {β : Type} (z : β) (code_n code_l code_c t4_n t4_l t4_c : Nat) (t8 : Bool) (t14 : Int) (h0_n : Nat) (h0 : NI) (h1_0 : Int) (h1_1 h1_2 : NI) (h2 : List (Nat × Nat)) (h3 : List (List Int)) (h4 : List (Nat × Nat)) (h5 : List (List Int)) : Nat -> Int -> Int -> (Nat -> Bool) -> ((Nat -> Bool) -> β) -> (Int -> (Nat -> Bool) -> β) -> β
  | 0, _, _, _, _, _ => z
  | m + 1, t12, t15, h6, k0, k1 => q03m z code_n code_l code_c t4_n t4_l t4_c t8 t14 h0_n h0 h1_0 h1_1 h1_2 h2 h3 h4 h5 t12 t15 h6 (fun t12 t15 h6 => q03n z code_n code_l code_c t4_n t4_l t4_c t8 t14 h0_n h0 h1_0 h1_1 h1_2 h2 h3 h4 h5 m t12 t15 h6 k0 k1) k0 k1
def q03o {β : Type} (z : β) (N code_n code_l code_c t4_n t4_l t4_c : Nat) (t8 : Bool) (h0_n : Nat) (h0 : NI) (h1_0 : Int) (h1_1 h1_2 : NI) (h2 : List (Nat × Nat)) (h3 : List (List Int)) (h4 : List (Nat × Nat)) (h5 : List (List Int)) (t12 t14 : Int) (h6 : Nat -> Bool) (kn : Int -> Int -> (Nat -> Bool) -> β) (k0 : (Nat -> Bool) -> β) (k1 : Int -> (Nat -> Bool) -> β) : β :=
  cond (t4_l.ble 9223372036854775807) (cond (decide (t14 < (↑t4_l : Int))) (q03n z code_n code_l code_c t4_n t4_l t4_c t8 t14 h0_n h0 h1_0 h1_1 h1_2 h2 h3 h4 h5 N t12 0 h6 (fun q23 => k0 q23) (fun q23 q24 => cond (fits .i64 (t14 + 1)) (kn q23 (t14 + 1) q24) (z))) (k1 t12 h6)) (z)
def q03p {β : Type} (z : β) (N code_n code_l code_c t4_n t4_l t4_c : Nat) (t8 : Bool) (h0_n : Nat) (h0 : NI) (h1_0 : Int) (h1_1 h1_2 : NI) (h2 : List (Nat × Nat)) (h3 : List (List Int)) (h4 : List (Nat × Nat)) (h5 : List (List Int)) : Nat -> Int -> Int -> (Nat -> Bool) -> ((Nat -> Bool) -> β) -> (Int -> (Nat -> Bool) -> β) -> β
  | 0, _, _, _, _, _ => z
  | m + 1, t12, t14, h6, k0, k1 => q03o z N code_n code_l code_c t4_n t4_l t4_c t8 h0_n h0 h1_0 h1_1 h1_2 h2 h3 h4 h5 t12 t14 h6 (fun t12 t14 h6 => q03p z N code_n code_l code_c t4_n t4_l t4_c t8 h0_n h0 h1_0 h1_1 h1_2 h2 h3 h4 h5 m t12 t14 h6 k0 k1) k0 k1
def q03q {β : Type} (z : β) (N a_n a_l a_c b_n b_l b_c : Nat) (h0 h1 : List (Nat × Nat)) (h2 h3 : List (List Int)) (i : Int) (kn : Int -> β) (k0 k1 : β) : β :=
  cond (a_l.ble 9223372036854775807) (cond (decide (i < (↑a_l : Int))) (cond (a_n.beq h0.length && (decide (0 <= i) && decide (i < (↑a_l : Int)))) (cond (a_n.beq h0.length && i.toNat.blt h0.length) (cond (b_n.beq h1.length && (decide (0 <= i) && decide (i < (↑b_l : Int)))) (cond (b_n.beq h1.length && i.toNat.blt h1.length) (q02h z N ((h0[i.toNat]?.getD (0, 0)).fst) 0 ((h0[i.toNat]?.getD (0, 0)).snd) ((h0[i.toNat]?.getD (0, 0)).snd) ((h0[i.toNat]?.getD (0, 0)).snd) ((h1[i.toNat]?.getD (0, 0)).fst) 0 ((h1[i.toNat]?.getD (0, 0)).snd) ((h1[i.toNat]?.getD (0, 0)).snd) ((h1[i.toNat]?.getD (0, 0)).snd) h2 h3 (fun q15 => cond (!q15) (k0) (cond (fits .i64 (i + 1)) (kn (i + 1)) (z)))) (z)) (z)) (z)) (z)) (k1)) (z)
def q03r {β : Type} (z : β) (N a_n a_l a_c b_n b_l b_c : Nat) (h0 h1 : List (Nat × Nat)) (h2 h3 : List (List Int)) : Nat -> Int -> β -> β -> β
  | 0, _, _, _ => z
  | m + 1, i, k0, k1 => q03q z N a_n a_l a_c b_n b_l b_c h0 h1 h2 h3 i (fun i => q03r z N a_n a_l a_c b_n b_l b_c h0 h1 h2 h3 m i k0 k1) k0 k1
def q03s {β : Type} (z : β) (N a_n a_l a_c b_n b_l b_c : Nat) (h0 h1 : List (Nat × Nat)) (h2 h3 : List (List Int)) (k0 : Bool -> β) : β :=
  cond (a_l.ble 9223372036854775807) (cond (b_l.ble 9223372036854775807) (cond ((↑a_l : Int) != (↑b_l : Int)) (k0 false) (q03r z N a_n a_l a_c b_n b_l b_c h0 h1 h2 h3 N 0 (k0 false) (k0 true))) (z)) (z)
end Go.AM
set_option maxRecDepth 100000
namespace Go.AM
end Go.AM
set_option maxRecDepth 100000
namespace Go.AM
end Go.AM
set_option maxRecDepth 100000
namespace Go.AM
def q03t {β : Type} (z : β) (h0_n : Nat) (h0 : NI) (h1_0 : Int) (h1_1 h1_2 : NI) (h2_0 : Int) (h2_1 h2_2 : NI) (t56 t57 : Int) (kn : Int -> Int -> β) (k0 : Int -> β) : β :=
  cond (decide (0 < t57)) (cond (!t57 == 0) (kn t57 (t56.tmod t57)) (z)) (k0 t56)
def q03u {β : Type} (z : β) (h0_n : Nat) (h0 : NI) (h1_0 : Int) (h1_1 h1_2 : NI) (h2_0 : Int) (h2_1 h2_2 : NI) : Nat -> Int -> Int -> (Int -> β) -> β
  | 0, _, _, _ => z
  | m + 1, t56, t57, k0 => q03t z h0_n h0 h1_0 h1_1 h1_2 h2_0 h2_1 h2_2 t56 t57 (fun t56 t57 => q03u z h0_n h0 h1_0 h1_1 h1_2 h2_0 h2_1 h2_2 m t56 t57 k0) k0
end Go.AM
