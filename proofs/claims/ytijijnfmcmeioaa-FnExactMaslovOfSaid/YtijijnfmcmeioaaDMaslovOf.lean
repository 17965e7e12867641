/- A part of a proof about the given program: an abstract machine, what the given functions come to, and plain laws. -/
import Derived.Test.YtijijnfmcmeioaaDLowerState
import Derived.Test.YtijijnfmcmeioaaDAlexanderNumber
import Derived.Test.YtijijnfmcmeioaaDIsMosaic
set_option maxRecDepth 100000
namespace Go.AM
/-- spec.MaslovOf -/
def s_MaslovOf {β : Type} (z : β) (N : Nat) (g_0 : Int) (g_1 : Nat → Int) (g_2 : Nat → Int) (x : Nat → Int) (xs : Bool) (k0 : Int → Int → β) : β :=
  s_l05Is z N g_0 g_1 g_2 x (fun q8 => cond (!q8) (k0 0 1) (cond (xs) (s_l05Maslov z N g_0 g_1 g_2 x g_1 (fun q9 => k0 q9 0)) (s_l05Maslov z N g_0 g_1 g_2 x g_2 (fun q9 => k0 q9 0))))

/-- impl.MaslovOf$1 -/
def i_MaslovOf_1 {β : Type} (z : β) (N : Nat) (g_0 : Int) (g_1 : Nat → Int) (g_2 : Nat → Int) (x : Nat → Int) (h0 : Bool) (k0 : Int → β) : β :=
  cond (h0) (i_Grid_maslov z N g_0 g_1 g_2 x g_1 (fun q8 => k0 q8)) (i_Grid_maslov z N g_0 g_1 g_2 x g_2 (fun q8 => k0 q8))

/-- impl.stated[int64] -/
def i_stated_int64_s2 {β : Type} (z : β) (N : Nat) (g_0 : Int) (g_1 : Nat → Int) (g_2 : Nat → Int) (x : Nat → Int) (h0 : Bool) (k0 : Int → Int → β) : β :=
  i_IsState z N g_0 g_1 g_2 x (fun q8 => cond (!q8) (k0 0 1) (i_MaslovOf_1 z N g_0 g_1 g_2 x h0 (fun q9 => k0 q9 0)))

/-- impl.MaslovOf -/
def i_MaslovOf {β : Type} (z : β) (N : Nat) (g_0 : Int) (g_1 : Nat → Int) (g_2 : Nat → Int) (x : Nat → Int) (xs : Bool) (k0 : Int → Int → β) : β :=
  i_stated_int64_s2 z N g_0 g_1 g_2 x xs (fun q8 q9 => k0 q8 q9)

/-- laws.FnExactMaslovOf -/
def w_FnExactMaslovOf {β : Type} (z : β) (N : Nat) (aG_0 : Int) (aG_1 : Nat → Int) (aG_2 : Nat → Int) (aX : Nat → Int) (aXs : Bool) (k0 : Bool → β) : β :=
  w_toGrid z N aG_0 aG_1 aG_2 (fun q8 q9 => w_toState z N aX (fun q10 => s_MaslovOf z N aG_0 q8 q9 q10 aXs (fun q11 q12 => w_toGrid z N aG_0 aG_1 aG_2 (fun q13 q14 => w_toState z N aX (fun q15 => i_MaslovOf z N aG_0 q13 q14 q15 aXs (fun q16 q17 => cond (q16 != q11) (k0 false) (cond (q17 != q12) (k0 false) (k0 true))))))))
end Go.AM
