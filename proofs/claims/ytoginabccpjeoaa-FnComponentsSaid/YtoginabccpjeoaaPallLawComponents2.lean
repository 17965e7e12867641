/- A part of a proof about the given program: an abstract machine, what the given functions come to, and plain laws. -/
import Derived.Test.YtoginabccpjeoaaPallLawComponents1
import Derived.Test.YtoginabccpjeoaaDallLawComponents1
set_option linter.unusedVariables false
set_option linter.unusedSimpArgs false
set_option maxRecDepth 100000
namespace Go.AM
noncomputable def cbb_w_FnComponents_c51 {β : Type} (z : β) (N : Nat) (code_n : Nat) (code_l : Nat) (code_c : Nat) (h0_n : Nat) (h0 : Nat -> Int) (k0 : Bool -> β) : β :=
  q03i z N code_n code_l code_c h0_n h0 (fun q8 q9 => cbb_i_TorusGrid z N q8 q9 (cbb_s_TorusGrid z N q8 q9 (k0 true) (fun q10 q11 q12 => k0 false)) (fun q10 q11 q12 => cbb_s_TorusGrid z N q8 q9 (k0 false) (fun q13 q14 q15 => cond (!(q10 == q13 && (q11 0 == q14 0 && (q11 1 == q14 1 && (q11 2 == q14 2 && (q11 3 == q14 3 && (q11 4 == q14 4 && (q11 5 == q14 5 && (q11 6 == q14 6 && (q11 7 == q14 7 && (q12 0 == q15 0 && (q12 1 == q15 1 && (q12 2 == q15 2 && (q12 3 == q15 3 && (q12 4 == q15 4 && (q12 5 == q15 5 && (q12 6 == q15 6 && (q12 7 == q15 7 && true)))))))))))))))))) (k0 false) (q03u z h0_n h0 q10 q11 q12 q13 q14 q15 N q8 q9 (fun q16 => cbb_i_ComponentsOf z N q10 q11 q12 (k0 false) (fun q17 q18 q19 q20 q21 => cond (q18.ble 9223372036854775807) (cond ((↑q18 : Int) != q16) (k0 false) (k0 true)) (z)))))))
noncomputable def cbb_w_FnComponents_c40 {β : Type} (z : β) (N : Nat) (code_n : Nat) (code_l : Nat) (code_c : Nat) (h0_n : Nat) (h0 : Nat -> Int) (k0 : Bool -> β) : β :=
  q03f z N code_n code_l code_c h0_n h0 (fun q8 q9 q10 q11 q12 q13 => cbb_i_UnionOf z N q8 q9 q10 q11 q12 q13 (fun q14 => cbb_s_UnionOf z N q8 q9 q10 q11 q12 q13 (fun q15 => cond (Int.ofNat q14.succ != Int.ofNat q15.succ) (k0 false) (cbb_w_FnComponents_c51 z N code_n code_l code_c h0_n h0 (fun q16 => k0 q16))) (fun q15 q16 q17 => k0 false)) (fun q14 q15 q16 => cbb_s_UnionOf z N q8 q9 q10 q11 q12 q13 (fun q17 => k0 false) (fun q17 q18 q19 => cond (!(q14 == q17 && (q15 0 == q18 0 && (q15 1 == q18 1 && (q15 2 == q18 2 && (q15 3 == q18 3 && (q15 4 == q18 4 && (q15 5 == q18 5 && (q15 6 == q18 6 && (q15 7 == q18 7 && (q16 0 == q19 0 && (q16 1 == q19 1 && (q16 2 == q19 2 && (q16 3 == q19 3 && (q16 4 == q19 4 && (q16 5 == q19 5 && (q16 6 == q19 6 && (q16 7 == q19 7 && true)))))))))))))))))) (k0 false) (cbb_i_ComponentsOf z N q8 q9 q10 (cbb_i_ComponentsOf z N q11 q12 q13 (cbb_i_ComponentsOf z N q14 q15 q16 (k0 false) (fun q20 q21 q22 q23 q24 => k0 false)) (fun q20 q21 q22 q23 q24 => cbb_i_ComponentsOf z N q14 q15 q16 (k0 false) (fun q25 q26 q27 q28 q29 => k0 false))) (fun q20 q21 q22 q23 q24 => cbb_i_ComponentsOf z N q11 q12 q13 (cbb_i_ComponentsOf z N q14 q15 q16 (k0 false) (fun q25 q26 q27 q28 q29 => k0 false)) (fun q25 q26 q27 q28 q29 => cbb_i_ComponentsOf z N q14 q15 q16 (k0 false) (fun q30 q31 q32 q33 q34 => cond (q31.ble 9223372036854775807) (cond (q21.ble 9223372036854775807) (cond (q26.ble 9223372036854775807) (cond (fits .i64 ((↑q21 : Int) + (↑q26 : Int))) (cond ((↑q31 : Int) != (↑q21 : Int) + (↑q26 : Int)) (k0 false) (cbb_w_FnComponents_c51 z N code_n code_l code_c h0_n h0 (fun q35 => k0 q35))) (z)) (z)) (z)) (z))))))))
noncomputable def cbb_w_FnComponents_c29 {β : Type} (z : β) (N : Nat) (code_n : Nat) (code_l : Nat) (code_c : Nat) (h0_n : Nat) (h0 : Nat -> Int) (k0 : Bool -> β) : β :=
  q03e z N code_n code_l code_c h0_n h0 (fun q8 q9 q10 q11 q12 => cbb_i_ShiftGrid z N q8 q9 q10 q11 q12 (fun q13 => cbb_s_ShiftGrid z N q8 q9 q10 q11 q12 (fun q14 => cond (Int.ofNat q13.succ != Int.ofNat q14.succ) (k0 false) (cbb_w_FnComponents_c40 z N code_n code_l code_c h0_n h0 (fun q15 => k0 q15)))))
noncomputable def cbb_w_FnComponents {β : Type} (z : β) (N : Nat) (code_n : Nat) (code_l : Nat) (code_c : Nat) (h0_n : Nat) (h0 : Nat -> Int) (k0 : Bool -> β) : β :=
  w_big z N code_n code_l code_c h0_n h0 (fun q8 => cond (q8) (k0 true) (q03c z N code_n code_l code_c h0_n h0 (fun q9 q10 q11 => cbb_i_ComponentsOf z N q9 q10 q11 (cbb_s_ComponentsOf z N q9 q10 q11 (cbb_i_IsKnot z N q9 q10 q11 (cbb_s_IsKnot z N q9 q10 q11 (q02e z N (fun q12 => cond (!q12) (k0 false) (cbb_w_FnComponents_c29 z N code_n code_l code_c h0_n h0 (fun q13 => k0 q13))))))) (fun q12 q13 q14 q15 q16 => cbb_s_ComponentsOf z N q9 q10 q11 (cbb_i_IsKnot z N q9 q10 q11 (cbb_s_IsKnot z N q9 q10 q11 (k0 false)))))))
end Go.AM
set_option maxRecDepth 100000
namespace Go.AM
noncomputable def cbg_w_FnComponents_c51 {β : Type} (z : β) (N : Nat) (code_n : Nat) (code_l : Nat) (code_c : Nat) (h0_n : Nat) (h0 : Nat -> Int) (k0 : Bool -> β) : β :=
  q03i z N code_n code_l code_c h0_n h0 (fun q8 q9 => cbg_i_TorusGrid z N q8 q9 (cbg_s_TorusGrid z N q8 q9 (k0 true) (fun q10 q11 q12 => k0 false)) (fun q10 q11 q12 => cbg_s_TorusGrid z N q8 q9 (k0 false) (fun q13 q14 q15 => cond (!(q10 == q13 && (q11 0 == q14 0 && (q11 1 == q14 1 && (q11 2 == q14 2 && (q11 3 == q14 3 && (q11 4 == q14 4 && (q11 5 == q14 5 && (q11 6 == q14 6 && (q11 7 == q14 7 && (q12 0 == q15 0 && (q12 1 == q15 1 && (q12 2 == q15 2 && (q12 3 == q15 3 && (q12 4 == q15 4 && (q12 5 == q15 5 && (q12 6 == q15 6 && (q12 7 == q15 7 && true)))))))))))))))))) (k0 false) (q03u z h0_n h0 q10 q11 q12 q13 q14 q15 N q8 q9 (fun q16 => cbg_i_ComponentsOf z N q10 q11 q12 (k0 false) (fun q17 q18 q19 q20 q21 => cond (q18.ble 9223372036854775807) (cond ((↑q18 : Int) != q16) (k0 false) (k0 true)) (z)))))))
noncomputable def cbg_w_FnComponents_c40 {β : Type} (z : β) (N : Nat) (code_n : Nat) (code_l : Nat) (code_c : Nat) (h0_n : Nat) (h0 : Nat -> Int) (k0 : Bool -> β) : β :=
  q03f z N code_n code_l code_c h0_n h0 (fun q8 q9 q10 q11 q12 q13 => cbg_i_UnionOf z N q8 q9 q10 q11 q12 q13 (fun q14 => cbg_s_UnionOf z N q8 q9 q10 q11 q12 q13 (fun q15 => cond (Int.ofNat q14.succ != Int.ofNat q15.succ) (k0 false) (cbg_w_FnComponents_c51 z N code_n code_l code_c h0_n h0 (fun q16 => k0 q16))) (fun q15 q16 q17 => k0 false)) (fun q14 q15 q16 => cbg_s_UnionOf z N q8 q9 q10 q11 q12 q13 (fun q17 => k0 false) (fun q17 q18 q19 => cond (!(q14 == q17 && (q15 0 == q18 0 && (q15 1 == q18 1 && (q15 2 == q18 2 && (q15 3 == q18 3 && (q15 4 == q18 4 && (q15 5 == q18 5 && (q15 6 == q18 6 && (q15 7 == q18 7 && (q16 0 == q19 0 && (q16 1 == q19 1 && (q16 2 == q19 2 && (q16 3 == q19 3 && (q16 4 == q19 4 && (q16 5 == q19 5 && (q16 6 == q19 6 && (q16 7 == q19 7 && true)))))))))))))))))) (k0 false) (cbg_i_ComponentsOf z N q8 q9 q10 (cbg_i_ComponentsOf z N q11 q12 q13 (cbg_i_ComponentsOf z N q14 q15 q16 (k0 false) (fun q20 q21 q22 q23 q24 => k0 false)) (fun q20 q21 q22 q23 q24 => cbg_i_ComponentsOf z N q14 q15 q16 (k0 false) (fun q25 q26 q27 q28 q29 => k0 false))) (fun q20 q21 q22 q23 q24 => cbg_i_ComponentsOf z N q11 q12 q13 (cbg_i_ComponentsOf z N q14 q15 q16 (k0 false) (fun q25 q26 q27 q28 q29 => k0 false)) (fun q25 q26 q27 q28 q29 => cbg_i_ComponentsOf z N q14 q15 q16 (k0 false) (fun q30 q31 q32 q33 q34 => cond (q31.ble 9223372036854775807) (cond (q21.ble 9223372036854775807) (cond (q26.ble 9223372036854775807) (cond (fits .i64 ((↑q21 : Int) + (↑q26 : Int))) (cond ((↑q31 : Int) != (↑q21 : Int) + (↑q26 : Int)) (k0 false) (cbg_w_FnComponents_c51 z N code_n code_l code_c h0_n h0 (fun q35 => k0 q35))) (z)) (z)) (z)) (z))))))))
noncomputable def cbg_w_FnComponents_c29 {β : Type} (z : β) (N : Nat) (code_n : Nat) (code_l : Nat) (code_c : Nat) (h0_n : Nat) (h0 : Nat -> Int) (k0 : Bool -> β) : β :=
  q03e z N code_n code_l code_c h0_n h0 (fun q8 q9 q10 q11 q12 => cbg_i_ShiftGrid z N q8 q9 q10 q11 q12 (fun q13 q14 q15 => cbg_s_ShiftGrid z N q8 q9 q10 q11 q12 (fun q16 q17 q18 => cond (!(q13 == q16 && (q14 0 == q17 0 && (q14 1 == q17 1 && (q14 2 == q17 2 && (q14 3 == q17 3 && (q14 4 == q17 4 && (q14 5 == q17 5 && (q14 6 == q17 6 && (q14 7 == q17 7 && (q15 0 == q18 0 && (q15 1 == q18 1 && (q15 2 == q18 2 && (q15 3 == q18 3 && (q15 4 == q18 4 && (q15 5 == q18 5 && (q15 6 == q18 6 && (q15 7 == q18 7 && true)))))))))))))))))) (k0 false) (cond (fits .i64 (-q11)) (cond (fits .i64 (-q12)) (cbg_i_ShiftGrid z N q13 q14 q15 (-q11) (-q12) (fun q19 q20 q21 => cbg_i_ComponentsOf z N q8 q9 q10 (cbg_i_ComponentsOf z N q13 q14 q15 (k0 false) (fun q22 q23 q24 q25 q26 => k0 false)) (fun q22 q23 q24 q25 q26 => cbg_i_ComponentsOf z N q13 q14 q15 (k0 false) (fun q27 q28 q29 q30 q31 => cond (!(q19 == q8 && (q20 0 == q9 0 && (q20 1 == q9 1 && (q20 2 == q9 2 && (q20 3 == q9 3 && (q20 4 == q9 4 && (q20 5 == q9 5 && (q20 6 == q9 6 && (q20 7 == q9 7 && (q21 0 == q10 0 && (q21 1 == q10 1 && (q21 2 == q10 2 && (q21 3 == q10 3 && (q21 4 == q10 4 && (q21 5 == q10 5 && (q21 6 == q10 6 && (q21 7 == q10 7 && true)))))))))))))))))) (k0 false) (cond (q23.ble 9223372036854775807) (cond (q28.ble 9223372036854775807) (cond ((↑q23 : Int) != (↑q28 : Int)) (k0 false) (cbg_w_FnComponents_c40 z N code_n code_l code_c h0_n h0 (fun q32 => k0 q32))) (z)) (z)))))) (z)) (z)))))
noncomputable def cbg_w_FnComponents {β : Type} (z : β) (N : Nat) (code_n : Nat) (code_l : Nat) (code_c : Nat) (h0_n : Nat) (h0 : Nat -> Int) (k0 : Bool -> β) : β :=
  w_big z N code_n code_l code_c h0_n h0 (fun q8 => cond (q8) (k0 true) (q03c z N code_n code_l code_c h0_n h0 (fun q9 q10 q11 => cbg_i_ComponentsOf z N q9 q10 q11 (cbg_s_ComponentsOf z N q9 q10 q11 (cbg_i_IsKnot z N q9 q10 q11 (cbg_s_IsKnot z N q9 q10 q11 (q02e z N (fun q12 => cond (!q12) (k0 false) (cbg_w_FnComponents_c29 z N code_n code_l code_c h0_n h0 (fun q13 => k0 q13))))))) (fun q12 q13 q14 q15 q16 => cbg_s_ComponentsOf z N q9 q10 q11 (cbg_i_IsKnot z N q9 q10 q11 (cbg_s_IsKnot z N q9 q10 q11 (k0 false)))))))
end Go.AM
set_option maxRecDepth 100000
namespace Go.AM
noncomputable def cgb_w_FnComponents_c51 {β : Type} (z : β) (N : Nat) (code_n : Nat) (code_l : Nat) (code_c : Nat) (h0_n : Nat) (h0 : Nat -> Int) (k0 : Bool -> β) : β :=
  q03i z N code_n code_l code_c h0_n h0 (fun q8 q9 => cgb_i_TorusGrid z N q8 q9 (cgb_s_TorusGrid z N q8 q9 (k0 true) (fun q10 q11 q12 => k0 false)) (fun q10 q11 q12 => cgb_s_TorusGrid z N q8 q9 (k0 false) (fun q13 q14 q15 => cond (!(q10 == q13 && (q11 0 == q14 0 && (q11 1 == q14 1 && (q11 2 == q14 2 && (q11 3 == q14 3 && (q11 4 == q14 4 && (q11 5 == q14 5 && (q11 6 == q14 6 && (q11 7 == q14 7 && (q12 0 == q15 0 && (q12 1 == q15 1 && (q12 2 == q15 2 && (q12 3 == q15 3 && (q12 4 == q15 4 && (q12 5 == q15 5 && (q12 6 == q15 6 && (q12 7 == q15 7 && true)))))))))))))))))) (k0 false) (q03u z h0_n h0 q10 q11 q12 q13 q14 q15 N q8 q9 (fun q16 => cgb_i_ComponentsOf z N q10 q11 q12 (fun q17 q18 q19 q20 q21 => cond (q18.ble 9223372036854775807) (cond ((↑q18 : Int) != q16) (k0 false) (k0 true)) (z)))))))
noncomputable def cgb_w_FnComponents_c40 {β : Type} (z : β) (N : Nat) (code_n : Nat) (code_l : Nat) (code_c : Nat) (h0_n : Nat) (h0 : Nat -> Int) (k0 : Bool -> β) : β :=
  q03f z N code_n code_l code_c h0_n h0 (fun q8 q9 q10 q11 q12 q13 => cgb_i_UnionOf z N q8 q9 q10 q11 q12 q13 (fun q14 => cgb_s_UnionOf z N q8 q9 q10 q11 q12 q13 (fun q15 => cond (Int.ofNat q14.succ != Int.ofNat q15.succ) (k0 false) (cgb_w_FnComponents_c51 z N code_n code_l code_c h0_n h0 (fun q16 => k0 q16))) (fun q15 q16 q17 => k0 false)) (fun q14 q15 q16 => cgb_s_UnionOf z N q8 q9 q10 q11 q12 q13 (fun q17 => k0 false) (fun q17 q18 q19 => cond (!(q14 == q17 && (q15 0 == q18 0 && (q15 1 == q18 1 && (q15 2 == q18 2 && (q15 3 == q18 3 && (q15 4 == q18 4 && (q15 5 == q18 5 && (q15 6 == q18 6 && (q15 7 == q18 7 && (q16 0 == q19 0 && (q16 1 == q19 1 && (q16 2 == q19 2 && (q16 3 == q19 3 && (q16 4 == q19 4 && (q16 5 == q19 5 && (q16 6 == q19 6 && (q16 7 == q19 7 && true)))))))))))))))))) (k0 false) (cgb_i_ComponentsOf z N q8 q9 q10 (fun q20 q21 q22 q23 q24 => cgb_i_ComponentsOf z N q11 q12 q13 (fun q25 q26 q27 q28 q29 => cgb_i_ComponentsOf z N q14 q15 q16 (fun q30 q31 q32 q33 q34 => cond (q31.ble 9223372036854775807) (cond (q21.ble 9223372036854775807) (cond (q26.ble 9223372036854775807) (cond (fits .i64 ((↑q21 : Int) + (↑q26 : Int))) (cond ((↑q31 : Int) != (↑q21 : Int) + (↑q26 : Int)) (k0 false) (cgb_w_FnComponents_c51 z N code_n code_l code_c h0_n h0 (fun q35 => k0 q35))) (z)) (z)) (z)) (z))))))))
noncomputable def cgb_w_FnComponents_c29 {β : Type} (z : β) (N : Nat) (code_n : Nat) (code_l : Nat) (code_c : Nat) (h0_n : Nat) (h0 : Nat -> Int) (k0 : Bool -> β) : β :=
  q03e z N code_n code_l code_c h0_n h0 (fun q8 q9 q10 q11 q12 => cgb_i_ShiftGrid z N q8 q9 q10 q11 q12 (fun q13 => cgb_s_ShiftGrid z N q8 q9 q10 q11 q12 (fun q14 => cond (Int.ofNat q13.succ != Int.ofNat q14.succ) (k0 false) (cgb_w_FnComponents_c40 z N code_n code_l code_c h0_n h0 (fun q15 => k0 q15)))))
noncomputable def cgb_w_FnComponents {β : Type} (z : β) (N : Nat) (code_n : Nat) (code_l : Nat) (code_c : Nat) (h0_n : Nat) (h0 : Nat -> Int) (k0 : Bool -> β) : β :=
  w_big z N code_n code_l code_c h0_n h0 (fun q8 => cond (q8) (k0 true) (q03c z N code_n code_l code_c h0_n h0 (fun q9 q10 q11 => cgb_i_ComponentsOf z N q9 q10 q11 (fun q12 q13 q14 q15 q16 => cgb_s_ComponentsOf z N q9 q10 q11 (fun q17 q18 q19 q20 q21 => cgb_i_IsKnot z N q9 q10 q11 (fun q22 => cgb_s_IsKnot z N q9 q10 q11 (fun q23 => q03l z N q12 q13 q14 q17 q18 q19 q15 q20 q16 q21 (fun q24 => cond (!q24) (k0 false) (cond (q22 != q23) (k0 false) (q03p z N code_n code_l code_c q12 q13 q14 q22 h0_n h0 q9 q10 q11 q15 q16 q20 q21 N 0 0 (fun (x : Nat) => false) (fun q25 => k0 false) (fun q25 q26 => cgb_i_QuarterTurn z N q9 q10 q11 (fun q27 q28 q29 => cgb_i_ComponentsOf z N q27 q28 q29 (fun q30 q31 q32 q33 q34 => cgb_i_ExchangeOf z N q9 q10 q11 (fun q35 q36 q37 => cgb_i_ComponentsOf z N q35 q36 q37 (fun q38 q39 q40 q41 q42 => cond (q25 != q9) (k0 false) (cond (q13.ble 9223372036854775807) (cond (q22 != ((↑q13 : Int) == 1)) (k0 false) (cond (q31.ble 9223372036854775807) (cond (q13.ble 9223372036854775807) (cond ((↑q31 : Int) != (↑q13 : Int)) (k0 false) (q03s z N q38 q39 q40 q12 q13 q14 q41 q15 q42 q16 (fun q43 => cond (!q43) (k0 false) (cgb_w_FnComponents_c29 z N code_n code_l code_c h0_n h0 (fun q44 => k0 q44))))) (z)) (z))) (z)))))))))))))))))
end Go.AM
set_option maxRecDepth 100000
namespace Go.AM
noncomputable def cgg_w_FnComponents_c51 {β : Type} (z : β) (N : Nat) (code_n : Nat) (code_l : Nat) (code_c : Nat) (h0_n : Nat) (h0 : Nat -> Int) (k0 : Bool -> β) : β :=
  q03i z N code_n code_l code_c h0_n h0 (fun q8 q9 => cgg_i_TorusGrid z N q8 q9 (cgg_s_TorusGrid z N q8 q9 (k0 true) (fun q10 q11 q12 => k0 false)) (fun q10 q11 q12 => cgg_s_TorusGrid z N q8 q9 (k0 false) (fun q13 q14 q15 => cond (!(q10 == q13 && (q11 0 == q14 0 && (q11 1 == q14 1 && (q11 2 == q14 2 && (q11 3 == q14 3 && (q11 4 == q14 4 && (q11 5 == q14 5 && (q11 6 == q14 6 && (q11 7 == q14 7 && (q12 0 == q15 0 && (q12 1 == q15 1 && (q12 2 == q15 2 && (q12 3 == q15 3 && (q12 4 == q15 4 && (q12 5 == q15 5 && (q12 6 == q15 6 && (q12 7 == q15 7 && true)))))))))))))))))) (k0 false) (q03u z h0_n h0 q10 q11 q12 q13 q14 q15 N q8 q9 (fun q16 => cgg_i_ComponentsOf z N q10 q11 q12 (fun q17 q18 q19 q20 q21 => cond (q18.ble 9223372036854775807) (cond ((↑q18 : Int) != q16) (k0 false) (k0 true)) (z)))))))
noncomputable def cgg_w_FnComponents_c40 {β : Type} (z : β) (N : Nat) (code_n : Nat) (code_l : Nat) (code_c : Nat) (h0_n : Nat) (h0 : Nat -> Int) (k0 : Bool -> β) : β :=
  q03f z N code_n code_l code_c h0_n h0 (fun q8 q9 q10 q11 q12 q13 => cgg_i_UnionOf z N q8 q9 q10 q11 q12 q13 (fun q14 => cgg_s_UnionOf z N q8 q9 q10 q11 q12 q13 (fun q15 => cond (Int.ofNat q14.succ != Int.ofNat q15.succ) (k0 false) (cgg_w_FnComponents_c51 z N code_n code_l code_c h0_n h0 (fun q16 => k0 q16))) (fun q15 q16 q17 => k0 false)) (fun q14 q15 q16 => cgg_s_UnionOf z N q8 q9 q10 q11 q12 q13 (fun q17 => k0 false) (fun q17 q18 q19 => cond (!(q14 == q17 && (q15 0 == q18 0 && (q15 1 == q18 1 && (q15 2 == q18 2 && (q15 3 == q18 3 && (q15 4 == q18 4 && (q15 5 == q18 5 && (q15 6 == q18 6 && (q15 7 == q18 7 && (q16 0 == q19 0 && (q16 1 == q19 1 && (q16 2 == q19 2 && (q16 3 == q19 3 && (q16 4 == q19 4 && (q16 5 == q19 5 && (q16 6 == q19 6 && (q16 7 == q19 7 && true)))))))))))))))))) (k0 false) (cgg_i_ComponentsOf z N q8 q9 q10 (fun q20 q21 q22 q23 q24 => cgg_i_ComponentsOf z N q11 q12 q13 (fun q25 q26 q27 q28 q29 => cgg_i_ComponentsOf z N q14 q15 q16 (fun q30 q31 q32 q33 q34 => cond (q31.ble 9223372036854775807) (cond (q21.ble 9223372036854775807) (cond (q26.ble 9223372036854775807) (cond (fits .i64 ((↑q21 : Int) + (↑q26 : Int))) (cond ((↑q31 : Int) != (↑q21 : Int) + (↑q26 : Int)) (k0 false) (cgg_w_FnComponents_c51 z N code_n code_l code_c h0_n h0 (fun q35 => k0 q35))) (z)) (z)) (z)) (z))))))))
noncomputable def cgg_w_FnComponents_c29 {β : Type} (z : β) (N : Nat) (code_n : Nat) (code_l : Nat) (code_c : Nat) (h0_n : Nat) (h0 : Nat -> Int) (k0 : Bool -> β) : β :=
  q03e z N code_n code_l code_c h0_n h0 (fun q8 q9 q10 q11 q12 => cgg_i_ShiftGrid z N q8 q9 q10 q11 q12 (fun q13 q14 q15 => cgg_s_ShiftGrid z N q8 q9 q10 q11 q12 (fun q16 q17 q18 => cond (!(q13 == q16 && (q14 0 == q17 0 && (q14 1 == q17 1 && (q14 2 == q17 2 && (q14 3 == q17 3 && (q14 4 == q17 4 && (q14 5 == q17 5 && (q14 6 == q17 6 && (q14 7 == q17 7 && (q15 0 == q18 0 && (q15 1 == q18 1 && (q15 2 == q18 2 && (q15 3 == q18 3 && (q15 4 == q18 4 && (q15 5 == q18 5 && (q15 6 == q18 6 && (q15 7 == q18 7 && true)))))))))))))))))) (k0 false) (cond (fits .i64 (-q11)) (cond (fits .i64 (-q12)) (cgg_i_ShiftGrid z N q13 q14 q15 (-q11) (-q12) (fun q19 q20 q21 => cgg_i_ComponentsOf z N q8 q9 q10 (fun q22 q23 q24 q25 q26 => cgg_i_ComponentsOf z N q13 q14 q15 (fun q27 q28 q29 q30 q31 => cond (!(q19 == q8 && (q20 0 == q9 0 && (q20 1 == q9 1 && (q20 2 == q9 2 && (q20 3 == q9 3 && (q20 4 == q9 4 && (q20 5 == q9 5 && (q20 6 == q9 6 && (q20 7 == q9 7 && (q21 0 == q10 0 && (q21 1 == q10 1 && (q21 2 == q10 2 && (q21 3 == q10 3 && (q21 4 == q10 4 && (q21 5 == q10 5 && (q21 6 == q10 6 && (q21 7 == q10 7 && true)))))))))))))))))) (k0 false) (cond (q23.ble 9223372036854775807) (cond (q28.ble 9223372036854775807) (cond ((↑q23 : Int) != (↑q28 : Int)) (k0 false) (cgg_w_FnComponents_c40 z N code_n code_l code_c h0_n h0 (fun q32 => k0 q32))) (z)) (z)))))) (z)) (z)))))
noncomputable def cgg_w_FnComponents {β : Type} (z : β) (N : Nat) (code_n : Nat) (code_l : Nat) (code_c : Nat) (h0_n : Nat) (h0 : Nat -> Int) (k0 : Bool -> β) : β :=
  w_big z N code_n code_l code_c h0_n h0 (fun q8 => cond (q8) (k0 true) (q03c z N code_n code_l code_c h0_n h0 (fun q9 q10 q11 => cgg_i_ComponentsOf z N q9 q10 q11 (fun q12 q13 q14 q15 q16 => cgg_s_ComponentsOf z N q9 q10 q11 (fun q17 q18 q19 q20 q21 => cgg_i_IsKnot z N q9 q10 q11 (fun q22 => cgg_s_IsKnot z N q9 q10 q11 (fun q23 => q03l z N q12 q13 q14 q17 q18 q19 q15 q20 q16 q21 (fun q24 => cond (!q24) (k0 false) (cond (q22 != q23) (k0 false) (q03p z N code_n code_l code_c q12 q13 q14 q22 h0_n h0 q9 q10 q11 q15 q16 q20 q21 N 0 0 (fun (x : Nat) => false) (fun q25 => k0 false) (fun q25 q26 => cgg_i_QuarterTurn z N q9 q10 q11 (fun q27 q28 q29 => cgg_i_ComponentsOf z N q27 q28 q29 (fun q30 q31 q32 q33 q34 => cgg_i_ExchangeOf z N q9 q10 q11 (fun q35 q36 q37 => cgg_i_ComponentsOf z N q35 q36 q37 (fun q38 q39 q40 q41 q42 => cond (q25 != q9) (k0 false) (cond (q13.ble 9223372036854775807) (cond (q22 != ((↑q13 : Int) == 1)) (k0 false) (cond (q31.ble 9223372036854775807) (cond (q13.ble 9223372036854775807) (cond ((↑q31 : Int) != (↑q13 : Int)) (k0 false) (q03s z N q38 q39 q40 q12 q13 q14 q41 q15 q42 q16 (fun q43 => cond (!q43) (k0 false) (cgg_w_FnComponents_c29 z N code_n code_l code_c h0_n h0 (fun q44 => k0 q44))))) (z)) (z))) (z)))))))))))))))))
end Go.AM
namespace Go.AM
section
variable {β : Type}
theorem gl_s9 (z : β) (h0_n : Nat) (h0 : Nat -> Int) (h1_0 : Int) (h1_1 : Nat -> Int) (h1_2 : Nat -> Int) (h2_0 : Int) (h2_1 : Nat -> Int) (h2_2 : Nat -> Int) {N p q : Nat} (hN : q < N) (k : Int -> β) : q03u z h0_n h0 h1_0 h1_1 h1_2 h2_0 h2_1 h2_2 N p q k = k (Nat.gcd q p : Int) :=
  gcd_loop (F := fun m x y k => q03u z h0_n h0 h1_0 h1_1 h1_2 h2_0 h2_1 h2_2 m x y k) (fun m x y k => by rw [q03u, q03t]) q p N k hN
theorem law_cbb (z : β) {N : Nat} (hN : 5000 < N) {n l c hn : Nat} {h : Nat -> Int} (hl : l <= 4096) {m : Int} {X O : Nat -> Int} {m2 : Int} {X2 O2 : Nat -> Int} {v u m3 : Int} {X3 O3 : Nat -> Int} {m4 : Int} {X4 O4 : Nat -> Int} {p q : Int}
    (e1 : ∀ k, q03c z N n l c hn h k = k m X O) (e2 : ∀ k, q03e z N n l c hn h k = k m2 X2 O2 v u) (e3 : ∀ k, q03f z N n l c hn h k = k m3 X3 O3 m4 X4 O4) (e4 : ∀ k, q03i z N n l c hn h k = k p q)
    (H1 : CpB N m X O) (H2 : CpS N m2 X2 O2 v u) (hX3 : Byt X3) (hO3 : Byt O3) (hX4 : Byt X4) (hO4 : Byt O4) (k0 : Bool -> β) : cbb_w_FnComponents z N n l c hn h k0 = k0 true := by
  have hN8 : 8 < N := by omega
  have first : ∀ x y : β, cond (decide ((4096 : Int) < l)) x y = y := fun x y => c_nlt (by omega)
  unfold cbb_w_FnComponents w_big
  rw [c_ble (by omega)]
  by_cases hU : CpU N m3 X3 O3 m4 X4 O4
  · by_cases hT : CpT p q
    · obtain ⟨h1, h2, h9⟩ := id hT
      obtain ⟨p, rfl⟩ : ∃ m : Nat, p = m := ⟨p.toNat, by omega⟩
      obtain ⟨q, rfl⟩ : ∃ m : Nat, q = m := ⟨q.toNat, by omega⟩
      obtain ⟨GT, cT⟩ := cp_torusG (N := N) (p := p) (q := q) (by omega) (by omega) (by omega) hN8
      have hg : Nat.gcd q p <= 8 := Nat.le_trans (Nat.gcd_le_left p (by omega)) (by omega)
      simp (disch := omega) only [cbb_i_ComponentsOf, cbb_i_IsKnot, cbb_i_ShiftGrid, cbb_i_UnionOf, cbb_i_TorusGrid, cbb_s_ComponentsOf, cbb_s_IsKnot, cbb_s_ShiftGrid, cbb_s_UnionOf, cbb_s_TorusGrid, cbb_w_FnComponents_c29, cbb_w_FnComponents_c40, cbb_w_FnComponents_c51, c_bP H1, rows5_nil z (show 0 < N by omega), c_bP H2, first, e1, e2, e3, e4, Int.toNat_natCast, bne_self_eq_false, beq_self_eq_true, Bool.and_true, Bool.true_and, Bool.not_true, Bool.not_false, c_true, c_false, c_bP hU, c_nbP (show ¬¬CpT p q from fun h => h hT), c_bP (show 8 < N ∧ CpT p q from ⟨hN8, hT⟩), c_bP GT, cT, c_nbP GT.no, gl_s9, c_ble, c_fits]
    · simp (disch := omega) only [cbb_i_ComponentsOf, cbb_i_IsKnot, cbb_i_ShiftGrid, cbb_i_UnionOf, cbb_i_TorusGrid, cbb_s_ComponentsOf, cbb_s_IsKnot, cbb_s_ShiftGrid, cbb_s_UnionOf, cbb_s_TorusGrid, cbb_w_FnComponents_c29, cbb_w_FnComponents_c40, cbb_w_FnComponents_c51, c_bP H1, rows5_nil z (show 0 < N by omega), c_bP H2, first, e1, e2, e3, e4, Int.toNat_natCast, bne_self_eq_false, beq_self_eq_true, Bool.and_true, Bool.true_and, Bool.not_true, Bool.not_false, c_true, c_false, c_bP hU, c_bP hT, c_ble, c_fits]
  · have b3 : gridB m3 X3 O3 = true := by
      cases e : gridB m3 X3 O3 with
      | true => rfl
      | false => exact absurd ⟨hN8, hX3, hO3, hX4, hO4, .inl e⟩ hU
    have b4 : gridB m4 X4 O4 = true := by
      cases e : gridB m4 X4 O4 with
      | true => rfl
      | false => exact absurd ⟨hN8, hX3, hO3, hX4, hO4, .inr e⟩ hU
    obtain ⟨m3, rfl, g3⟩ := gridB_iff.1 b3
    obtain ⟨m4, rfl, g4⟩ := gridB_iff.1 b4
    have G3 : CpG N m3 X3 O3 := .mk' hN8 g3 hX3 hO3
    have G4 : CpG N m4 X4 O4 := .mk' hN8 g4 hX4 hO4
    by_cases h8 : (m3 : Int) + (m4 : Int) <= 8
    · have nL : ¬(CpG N m3 X3 O3 ∧ CpG N m4 X4 O4 ∧ 8 < (m3 : Int) + (m4 : Int)) := fun h => by have := h.2.2; omega
      obtain ⟨GU, cU⟩ := cp_unionG g3 hX3 hO3 g4 hX4 hO4 (by omega) hN8
      have c3 := cp_le g3 hX3 hO3
      have c4 := cp_le g4 hX4 hO4
      by_cases hT : CpT p q
      · obtain ⟨h1, h2, h9⟩ := id hT
        obtain ⟨p, rfl⟩ : ∃ m : Nat, p = m := ⟨p.toNat, by omega⟩
        obtain ⟨q, rfl⟩ : ∃ m : Nat, q = m := ⟨q.toNat, by omega⟩
        obtain ⟨GT, cT⟩ := cp_torusG (N := N) (p := p) (q := q) (by omega) (by omega) (by omega) hN8
        have hg : Nat.gcd q p <= 8 := Nat.le_trans (Nat.gcd_le_left p (by omega)) (by omega)
        simp (disch := omega) only [cbb_i_ComponentsOf, cbb_i_IsKnot, cbb_i_ShiftGrid, cbb_i_UnionOf, cbb_i_TorusGrid, cbb_s_ComponentsOf, cbb_s_IsKnot, cbb_s_ShiftGrid, cbb_s_UnionOf, cbb_s_TorusGrid, cbb_w_FnComponents_c29, cbb_w_FnComponents_c40, cbb_w_FnComponents_c51, c_bP H1, rows5_nil z (show 0 < N by omega), c_bP H2, first, e1, e2, e3, e4, Int.toNat_natCast, bne_self_eq_false, beq_self_eq_true, Bool.and_true, Bool.true_and, Bool.not_true, Bool.not_false, c_true, c_false, c_nbP hU, c_nbP nL, c_bP (show CpG N m3 X3 O3 ∧ CpG N m4 X4 O4 ∧ (m3 : Int) + (m4 : Int) <= 8 from ⟨G3, G4, h8⟩), c_bP G3, c_bP G4, c_bP GU, cU, Int.natCast_add, c_nbP G3.no, c_nbP G4.no, c_nbP GU.no, c_nbP (show ¬¬CpT p q from fun h => h hT), c_bP (show 8 < N ∧ CpT p q from ⟨hN8, hT⟩), c_bP GT, cT, c_nbP GT.no, gl_s9, c_ble, c_fits]
      · simp (disch := omega) only [cbb_i_ComponentsOf, cbb_i_IsKnot, cbb_i_ShiftGrid, cbb_i_UnionOf, cbb_i_TorusGrid, cbb_s_ComponentsOf, cbb_s_IsKnot, cbb_s_ShiftGrid, cbb_s_UnionOf, cbb_s_TorusGrid, cbb_w_FnComponents_c29, cbb_w_FnComponents_c40, cbb_w_FnComponents_c51, c_bP H1, rows5_nil z (show 0 < N by omega), c_bP H2, first, e1, e2, e3, e4, Int.toNat_natCast, bne_self_eq_false, beq_self_eq_true, Bool.and_true, Bool.true_and, Bool.not_true, Bool.not_false, c_true, c_false, c_nbP hU, c_nbP nL, c_bP (show CpG N m3 X3 O3 ∧ CpG N m4 X4 O4 ∧ (m3 : Int) + (m4 : Int) <= 8 from ⟨G3, G4, h8⟩), c_bP G3, c_bP G4, c_bP GU, cU, Int.natCast_add, c_nbP G3.no, c_nbP G4.no, c_nbP GU.no, c_bP hT, c_ble, c_fits]
    · by_cases hT : CpT p q
      · obtain ⟨h1, h2, h9⟩ := id hT
        obtain ⟨p, rfl⟩ : ∃ m : Nat, p = m := ⟨p.toNat, by omega⟩
        obtain ⟨q, rfl⟩ : ∃ m : Nat, q = m := ⟨q.toNat, by omega⟩
        obtain ⟨GT, cT⟩ := cp_torusG (N := N) (p := p) (q := q) (by omega) (by omega) (by omega) hN8
        have hg : Nat.gcd q p <= 8 := Nat.le_trans (Nat.gcd_le_left p (by omega)) (by omega)
        simp (disch := omega) only [cbb_i_ComponentsOf, cbb_i_IsKnot, cbb_i_ShiftGrid, cbb_i_UnionOf, cbb_i_TorusGrid, cbb_s_ComponentsOf, cbb_s_IsKnot, cbb_s_ShiftGrid, cbb_s_UnionOf, cbb_s_TorusGrid, cbb_w_FnComponents_c29, cbb_w_FnComponents_c40, cbb_w_FnComponents_c51, c_bP H1, rows5_nil z (show 0 < N by omega), c_bP H2, first, e1, e2, e3, e4, Int.toNat_natCast, bne_self_eq_false, beq_self_eq_true, Bool.and_true, Bool.true_and, Bool.not_true, Bool.not_false, c_true, c_false, c_nbP hU, c_bP (show CpG N m3 X3 O3 ∧ CpG N m4 X4 O4 ∧ 8 < (m3 : Int) + (m4 : Int) from ⟨G3, G4, by omega⟩), c_nbP (show ¬¬CpT p q from fun h => h hT), c_bP (show 8 < N ∧ CpT p q from ⟨hN8, hT⟩), c_bP GT, cT, c_nbP GT.no, gl_s9, c_ble, c_fits]
      · simp (disch := omega) only [cbb_i_ComponentsOf, cbb_i_IsKnot, cbb_i_ShiftGrid, cbb_i_UnionOf, cbb_i_TorusGrid, cbb_s_ComponentsOf, cbb_s_IsKnot, cbb_s_ShiftGrid, cbb_s_UnionOf, cbb_s_TorusGrid, cbb_w_FnComponents_c29, cbb_w_FnComponents_c40, cbb_w_FnComponents_c51, c_bP H1, rows5_nil z (show 0 < N by omega), c_bP H2, first, e1, e2, e3, e4, Int.toNat_natCast, bne_self_eq_false, beq_self_eq_true, Bool.and_true, Bool.true_and, Bool.not_true, Bool.not_false, c_true, c_false, c_nbP hU, c_bP (show CpG N m3 X3 O3 ∧ CpG N m4 X4 O4 ∧ 8 < (m3 : Int) + (m4 : Int) from ⟨G3, G4, by omega⟩), c_bP hT, c_ble, c_fits]
theorem law_cbg (z : β) {N : Nat} (hN : 5000 < N) {n l c hn : Nat} {h : Nat -> Int} (hl : l <= 4096) {m : Int} {X O : Nat -> Int} {m2 : Nat} {X2 O2 : Nat -> Int} {v u m3 : Int} {X3 O3 : Nat -> Int} {m4 : Int} {X4 O4 : Nat -> Int} {p q : Int}
    (e1 : ∀ k, q03c z N n l c hn h k = k m X O) (e2 : ∀ k, q03e z N n l c hn h k = k m2 X2 O2 v u) (e3 : ∀ k, q03f z N n l c hn h k = k m3 X3 O3 m4 X4 O4) (e4 : ∀ k, q03i z N n l c hn h k = k p q)
    (H1 : CpB N m X O) (g2 : GridP m2 X2 O2) (hX2 : Byt X2) (hO2 : Byt O2) (hR : CpR v u) (hX3 : Byt X3) (hO3 : Byt O3) (hX4 : Byt X4) (hO4 : Byt O4) (k0 : Bool -> β) : cbg_w_FnComponents z N n l c hn h k0 = k0 true := by
  have hN8 : 8 < N := by omega
  have first : ∀ x y : β, cond (decide ((4096 : Int) < l)) x y = y := fun x y => c_nlt (by omega)
  have G2 : CpG N m2 X2 O2 := .mk' hN8 g2 hX2 hO2
  obtain ⟨G2r, r1, r2, r3⟩ := cp_rollG g2 hX2 hO2 hN8 v u
  have c2 := cp_le g2 hX2 hO2
  have hR1 := hR.1
  have hR2 := hR.2
  have hRn : CpR (-v) (-u) := ⟨by omega, by omega⟩
  unfold cbg_w_FnComponents w_big
  rw [c_ble (by omega)]
  by_cases hU : CpU N m3 X3 O3 m4 X4 O4
  · by_cases hT : CpT p q
    · obtain ⟨h1, h2, h9⟩ := id hT
      obtain ⟨p, rfl⟩ : ∃ m : Nat, p = m := ⟨p.toNat, by omega⟩
      obtain ⟨q, rfl⟩ : ∃ m : Nat, q = m := ⟨q.toNat, by omega⟩
      obtain ⟨GT, cT⟩ := cp_torusG (N := N) (p := p) (q := q) (by omega) (by omega) (by omega) hN8
      have hg : Nat.gcd q p <= 8 := Nat.le_trans (Nat.gcd_le_left p (by omega)) (by omega)
      simp (disch := omega) only [cbg_i_ComponentsOf, cbg_i_IsKnot, cbg_i_ShiftGrid, cbg_i_UnionOf, cbg_i_TorusGrid, cbg_s_ComponentsOf, cbg_s_IsKnot, cbg_s_ShiftGrid, cbg_s_UnionOf, cbg_s_TorusGrid, cbg_w_FnComponents_c29, cbg_w_FnComponents_c40, cbg_w_FnComponents_c51, c_bP H1, rows5_nil z (show 0 < N by omega), c_bP (show CpG N m2 X2 O2 ∧ CpR v u from ⟨G2, hR⟩), c_bP (show CpG N m2 (rollP m2 X2 O2 v u).1 (rollP m2 X2 O2 v u).2 ∧ CpR (-v) (-u) from ⟨G2r, hRn⟩), c_bP G2, c_bP G2r, r1, r2, r3, c_nbP G2.no, c_nbP G2r.no, first, e1, e2, e3, e4, Int.toNat_natCast, bne_self_eq_false, beq_self_eq_true, Bool.and_true, Bool.true_and, Bool.not_true, Bool.not_false, c_true, c_false, c_bP hU, c_nbP (show ¬¬CpT p q from fun h => h hT), c_bP (show 8 < N ∧ CpT p q from ⟨hN8, hT⟩), c_bP GT, cT, c_nbP GT.no, gl_s9, c_ble, c_fits]
    · simp (disch := omega) only [cbg_i_ComponentsOf, cbg_i_IsKnot, cbg_i_ShiftGrid, cbg_i_UnionOf, cbg_i_TorusGrid, cbg_s_ComponentsOf, cbg_s_IsKnot, cbg_s_ShiftGrid, cbg_s_UnionOf, cbg_s_TorusGrid, cbg_w_FnComponents_c29, cbg_w_FnComponents_c40, cbg_w_FnComponents_c51, c_bP H1, rows5_nil z (show 0 < N by omega), c_bP (show CpG N m2 X2 O2 ∧ CpR v u from ⟨G2, hR⟩), c_bP (show CpG N m2 (rollP m2 X2 O2 v u).1 (rollP m2 X2 O2 v u).2 ∧ CpR (-v) (-u) from ⟨G2r, hRn⟩), c_bP G2, c_bP G2r, r1, r2, r3, c_nbP G2.no, c_nbP G2r.no, first, e1, e2, e3, e4, Int.toNat_natCast, bne_self_eq_false, beq_self_eq_true, Bool.and_true, Bool.true_and, Bool.not_true, Bool.not_false, c_true, c_false, c_bP hU, c_bP hT, c_ble, c_fits]
  · have b3 : gridB m3 X3 O3 = true := by
      cases e : gridB m3 X3 O3 with
      | true => rfl
      | false => exact absurd ⟨hN8, hX3, hO3, hX4, hO4, .inl e⟩ hU
    have b4 : gridB m4 X4 O4 = true := by
      cases e : gridB m4 X4 O4 with
      | true => rfl
      | false => exact absurd ⟨hN8, hX3, hO3, hX4, hO4, .inr e⟩ hU
    obtain ⟨m3, rfl, g3⟩ := gridB_iff.1 b3
    obtain ⟨m4, rfl, g4⟩ := gridB_iff.1 b4
    have G3 : CpG N m3 X3 O3 := .mk' hN8 g3 hX3 hO3
    have G4 : CpG N m4 X4 O4 := .mk' hN8 g4 hX4 hO4
    by_cases h8 : (m3 : Int) + (m4 : Int) <= 8
    · have nL : ¬(CpG N m3 X3 O3 ∧ CpG N m4 X4 O4 ∧ 8 < (m3 : Int) + (m4 : Int)) := fun h => by have := h.2.2; omega
      obtain ⟨GU, cU⟩ := cp_unionG g3 hX3 hO3 g4 hX4 hO4 (by omega) hN8
      have c3 := cp_le g3 hX3 hO3
      have c4 := cp_le g4 hX4 hO4
      by_cases hT : CpT p q
      · obtain ⟨h1, h2, h9⟩ := id hT
        obtain ⟨p, rfl⟩ : ∃ m : Nat, p = m := ⟨p.toNat, by omega⟩
        obtain ⟨q, rfl⟩ : ∃ m : Nat, q = m := ⟨q.toNat, by omega⟩
        obtain ⟨GT, cT⟩ := cp_torusG (N := N) (p := p) (q := q) (by omega) (by omega) (by omega) hN8
        have hg : Nat.gcd q p <= 8 := Nat.le_trans (Nat.gcd_le_left p (by omega)) (by omega)
        simp (disch := omega) only [cbg_i_ComponentsOf, cbg_i_IsKnot, cbg_i_ShiftGrid, cbg_i_UnionOf, cbg_i_TorusGrid, cbg_s_ComponentsOf, cbg_s_IsKnot, cbg_s_ShiftGrid, cbg_s_UnionOf, cbg_s_TorusGrid, cbg_w_FnComponents_c29, cbg_w_FnComponents_c40, cbg_w_FnComponents_c51, c_bP H1, rows5_nil z (show 0 < N by omega), c_bP (show CpG N m2 X2 O2 ∧ CpR v u from ⟨G2, hR⟩), c_bP (show CpG N m2 (rollP m2 X2 O2 v u).1 (rollP m2 X2 O2 v u).2 ∧ CpR (-v) (-u) from ⟨G2r, hRn⟩), c_bP G2, c_bP G2r, r1, r2, r3, c_nbP G2.no, c_nbP G2r.no, first, e1, e2, e3, e4, Int.toNat_natCast, bne_self_eq_false, beq_self_eq_true, Bool.and_true, Bool.true_and, Bool.not_true, Bool.not_false, c_true, c_false, c_nbP hU, c_nbP nL, c_bP (show CpG N m3 X3 O3 ∧ CpG N m4 X4 O4 ∧ (m3 : Int) + (m4 : Int) <= 8 from ⟨G3, G4, h8⟩), c_bP G3, c_bP G4, c_bP GU, cU, Int.natCast_add, c_nbP G3.no, c_nbP G4.no, c_nbP GU.no, c_nbP (show ¬¬CpT p q from fun h => h hT), c_bP (show 8 < N ∧ CpT p q from ⟨hN8, hT⟩), c_bP GT, cT, c_nbP GT.no, gl_s9, c_ble, c_fits]
      · simp (disch := omega) only [cbg_i_ComponentsOf, cbg_i_IsKnot, cbg_i_ShiftGrid, cbg_i_UnionOf, cbg_i_TorusGrid, cbg_s_ComponentsOf, cbg_s_IsKnot, cbg_s_ShiftGrid, cbg_s_UnionOf, cbg_s_TorusGrid, cbg_w_FnComponents_c29, cbg_w_FnComponents_c40, cbg_w_FnComponents_c51, c_bP H1, rows5_nil z (show 0 < N by omega), c_bP (show CpG N m2 X2 O2 ∧ CpR v u from ⟨G2, hR⟩), c_bP (show CpG N m2 (rollP m2 X2 O2 v u).1 (rollP m2 X2 O2 v u).2 ∧ CpR (-v) (-u) from ⟨G2r, hRn⟩), c_bP G2, c_bP G2r, r1, r2, r3, c_nbP G2.no, c_nbP G2r.no, first, e1, e2, e3, e4, Int.toNat_natCast, bne_self_eq_false, beq_self_eq_true, Bool.and_true, Bool.true_and, Bool.not_true, Bool.not_false, c_true, c_false, c_nbP hU, c_nbP nL, c_bP (show CpG N m3 X3 O3 ∧ CpG N m4 X4 O4 ∧ (m3 : Int) + (m4 : Int) <= 8 from ⟨G3, G4, h8⟩), c_bP G3, c_bP G4, c_bP GU, cU, Int.natCast_add, c_nbP G3.no, c_nbP G4.no, c_nbP GU.no, c_bP hT, c_ble, c_fits]
    · by_cases hT : CpT p q
      · obtain ⟨h1, h2, h9⟩ := id hT
        obtain ⟨p, rfl⟩ : ∃ m : Nat, p = m := ⟨p.toNat, by omega⟩
        obtain ⟨q, rfl⟩ : ∃ m : Nat, q = m := ⟨q.toNat, by omega⟩
        obtain ⟨GT, cT⟩ := cp_torusG (N := N) (p := p) (q := q) (by omega) (by omega) (by omega) hN8
        have hg : Nat.gcd q p <= 8 := Nat.le_trans (Nat.gcd_le_left p (by omega)) (by omega)
        simp (disch := omega) only [cbg_i_ComponentsOf, cbg_i_IsKnot, cbg_i_ShiftGrid, cbg_i_UnionOf, cbg_i_TorusGrid, cbg_s_ComponentsOf, cbg_s_IsKnot, cbg_s_ShiftGrid, cbg_s_UnionOf, cbg_s_TorusGrid, cbg_w_FnComponents_c29, cbg_w_FnComponents_c40, cbg_w_FnComponents_c51, c_bP H1, rows5_nil z (show 0 < N by omega), c_bP (show CpG N m2 X2 O2 ∧ CpR v u from ⟨G2, hR⟩), c_bP (show CpG N m2 (rollP m2 X2 O2 v u).1 (rollP m2 X2 O2 v u).2 ∧ CpR (-v) (-u) from ⟨G2r, hRn⟩), c_bP G2, c_bP G2r, r1, r2, r3, c_nbP G2.no, c_nbP G2r.no, first, e1, e2, e3, e4, Int.toNat_natCast, bne_self_eq_false, beq_self_eq_true, Bool.and_true, Bool.true_and, Bool.not_true, Bool.not_false, c_true, c_false, c_nbP hU, c_bP (show CpG N m3 X3 O3 ∧ CpG N m4 X4 O4 ∧ 8 < (m3 : Int) + (m4 : Int) from ⟨G3, G4, by omega⟩), c_nbP (show ¬¬CpT p q from fun h => h hT), c_bP (show 8 < N ∧ CpT p q from ⟨hN8, hT⟩), c_bP GT, cT, c_nbP GT.no, gl_s9, c_ble, c_fits]
      · simp (disch := omega) only [cbg_i_ComponentsOf, cbg_i_IsKnot, cbg_i_ShiftGrid, cbg_i_UnionOf, cbg_i_TorusGrid, cbg_s_ComponentsOf, cbg_s_IsKnot, cbg_s_ShiftGrid, cbg_s_UnionOf, cbg_s_TorusGrid, cbg_w_FnComponents_c29, cbg_w_FnComponents_c40, cbg_w_FnComponents_c51, c_bP H1, rows5_nil z (show 0 < N by omega), c_bP (show CpG N m2 X2 O2 ∧ CpR v u from ⟨G2, hR⟩), c_bP (show CpG N m2 (rollP m2 X2 O2 v u).1 (rollP m2 X2 O2 v u).2 ∧ CpR (-v) (-u) from ⟨G2r, hRn⟩), c_bP G2, c_bP G2r, r1, r2, r3, c_nbP G2.no, c_nbP G2r.no, first, e1, e2, e3, e4, Int.toNat_natCast, bne_self_eq_false, beq_self_eq_true, Bool.and_true, Bool.true_and, Bool.not_true, Bool.not_false, c_true, c_false, c_nbP hU, c_bP (show CpG N m3 X3 O3 ∧ CpG N m4 X4 O4 ∧ 8 < (m3 : Int) + (m4 : Int) from ⟨G3, G4, by omega⟩), c_bP hT, c_ble, c_fits]
theorem law_cgb (z : β) {N : Nat} (hN : 5000 < N) {n l c hn : Nat} {h : Nat -> Int} (hl : l <= 4096) {m : Nat} {X O : Nat -> Int} {m2 : Int} {X2 O2 : Nat -> Int} {v u m3 : Int} {X3 O3 : Nat -> Int} {m4 : Int} {X4 O4 : Nat -> Int} {p q : Int}
    (e1 : ∀ k, q03c z N n l c hn h k = k m X O) (e2 : ∀ k, q03e z N n l c hn h k = k m2 X2 O2 v u) (e3 : ∀ k, q03f z N n l c hn h k = k m3 X3 O3 m4 X4 O4) (e4 : ∀ k, q03i z N n l c hn h k = k p q)
    (g1 : GridP m X O) (hX : Byt X) (hO : Byt O) (H2 : CpS N m2 X2 O2 v u) (hX3 : Byt X3) (hO3 : Byt O3) (hX4 : Byt X4) (hO4 : Byt O4) (k0 : Bool -> β) : cgb_w_FnComponents z N n l c hn h k0 = k0 true := by
  have hN8 : 8 < N := by omega
  have first : ∀ x y : β, cond (decide ((4096 : Int) < l)) x y = y := fun x y => c_nlt (by omega)
  have G1 : CpG N m X O := .mk' hN8 g1 hX hO
  have G1s : CpG N m O X := .mk' hN8 g1.swap hO hX
  obtain ⟨s1, s2, s3⟩ := cp_swap g1 hX hO
  obtain ⟨G1t, t1⟩ := cp_turnG g1 hX hO hN8
  have c1 := cp_le g1 hX hO
  unfold cgb_w_FnComponents w_big
  rw [c_ble (by omega)]
  by_cases hU : CpU N m3 X3 O3 m4 X4 O4
  · by_cases hT : CpT p q
    · obtain ⟨h1, h2, h9⟩ := id hT
      obtain ⟨p, rfl⟩ : ∃ m : Nat, p = m := ⟨p.toNat, by omega⟩
      obtain ⟨q, rfl⟩ : ∃ m : Nat, q = m := ⟨q.toNat, by omega⟩
      obtain ⟨GT, cT⟩ := cp_torusG (N := N) (p := p) (q := q) (by omega) (by omega) (by omega) hN8
      have hg : Nat.gcd q p <= 8 := Nat.le_trans (Nat.gcd_le_left p (by omega)) (by omega)
      simp (disch := omega) only [cgb_i_ComponentsOf, cgb_i_IsKnot, cgb_i_ShiftGrid, cgb_i_UnionOf, cgb_i_TorusGrid, cgb_s_ComponentsOf, cgb_s_IsKnot, cgb_s_ShiftGrid, cgb_s_UnionOf, cgb_s_TorusGrid, cgb_i_QuarterTurn, cgb_i_ExchangeOf, cgb_w_FnComponents_c29, cgb_w_FnComponents_c40, cgb_w_FnComponents_c51, c_bP G1, c_bP G1s, c_bP G1t, s1, s2, s3, t1, cp_rows3 z g1 hX hO hN8, cp_rows4 z g1 hX hO hN8, cp_met z g1 hX hO (show 100 < N by omega), c_bP H2, first, e1, e2, e3, e4, Int.toNat_natCast, bne_self_eq_false, beq_self_eq_true, Bool.and_true, Bool.true_and, Bool.not_true, Bool.not_false, c_true, c_false, c_bP hU, c_nbP (show ¬¬CpT p q from fun h => h hT), c_bP (show 8 < N ∧ CpT p q from ⟨hN8, hT⟩), c_bP GT, cT, gl_s9, c_ble, c_fits]
    · simp (disch := omega) only [cgb_i_ComponentsOf, cgb_i_IsKnot, cgb_i_ShiftGrid, cgb_i_UnionOf, cgb_i_TorusGrid, cgb_s_ComponentsOf, cgb_s_IsKnot, cgb_s_ShiftGrid, cgb_s_UnionOf, cgb_s_TorusGrid, cgb_i_QuarterTurn, cgb_i_ExchangeOf, cgb_w_FnComponents_c29, cgb_w_FnComponents_c40, cgb_w_FnComponents_c51, c_bP G1, c_bP G1s, c_bP G1t, s1, s2, s3, t1, cp_rows3 z g1 hX hO hN8, cp_rows4 z g1 hX hO hN8, cp_met z g1 hX hO (show 100 < N by omega), c_bP H2, first, e1, e2, e3, e4, Int.toNat_natCast, bne_self_eq_false, beq_self_eq_true, Bool.and_true, Bool.true_and, Bool.not_true, Bool.not_false, c_true, c_false, c_bP hU, c_bP hT, c_ble, c_fits]
  · have b3 : gridB m3 X3 O3 = true := by
      cases e : gridB m3 X3 O3 with
      | true => rfl
      | false => exact absurd ⟨hN8, hX3, hO3, hX4, hO4, .inl e⟩ hU
    have b4 : gridB m4 X4 O4 = true := by
      cases e : gridB m4 X4 O4 with
      | true => rfl
      | false => exact absurd ⟨hN8, hX3, hO3, hX4, hO4, .inr e⟩ hU
    obtain ⟨m3, rfl, g3⟩ := gridB_iff.1 b3
    obtain ⟨m4, rfl, g4⟩ := gridB_iff.1 b4
    have G3 : CpG N m3 X3 O3 := .mk' hN8 g3 hX3 hO3
    have G4 : CpG N m4 X4 O4 := .mk' hN8 g4 hX4 hO4
    by_cases h8 : (m3 : Int) + (m4 : Int) <= 8
    · have nL : ¬(CpG N m3 X3 O3 ∧ CpG N m4 X4 O4 ∧ 8 < (m3 : Int) + (m4 : Int)) := fun h => by have := h.2.2; omega
      obtain ⟨GU, cU⟩ := cp_unionG g3 hX3 hO3 g4 hX4 hO4 (by omega) hN8
      have c3 := cp_le g3 hX3 hO3
      have c4 := cp_le g4 hX4 hO4
      by_cases hT : CpT p q
      · obtain ⟨h1, h2, h9⟩ := id hT
        obtain ⟨p, rfl⟩ : ∃ m : Nat, p = m := ⟨p.toNat, by omega⟩
        obtain ⟨q, rfl⟩ : ∃ m : Nat, q = m := ⟨q.toNat, by omega⟩
        obtain ⟨GT, cT⟩ := cp_torusG (N := N) (p := p) (q := q) (by omega) (by omega) (by omega) hN8
        have hg : Nat.gcd q p <= 8 := Nat.le_trans (Nat.gcd_le_left p (by omega)) (by omega)
        simp (disch := omega) only [cgb_i_ComponentsOf, cgb_i_IsKnot, cgb_i_ShiftGrid, cgb_i_UnionOf, cgb_i_TorusGrid, cgb_s_ComponentsOf, cgb_s_IsKnot, cgb_s_ShiftGrid, cgb_s_UnionOf, cgb_s_TorusGrid, cgb_i_QuarterTurn, cgb_i_ExchangeOf, cgb_w_FnComponents_c29, cgb_w_FnComponents_c40, cgb_w_FnComponents_c51, c_bP G1, c_bP G1s, c_bP G1t, s1, s2, s3, t1, cp_rows3 z g1 hX hO hN8, cp_rows4 z g1 hX hO hN8, cp_met z g1 hX hO (show 100 < N by omega), c_bP H2, first, e1, e2, e3, e4, Int.toNat_natCast, bne_self_eq_false, beq_self_eq_true, Bool.and_true, Bool.true_and, Bool.not_true, Bool.not_false, c_true, c_false, c_nbP hU, c_nbP nL, c_bP (show CpG N m3 X3 O3 ∧ CpG N m4 X4 O4 ∧ (m3 : Int) + (m4 : Int) <= 8 from ⟨G3, G4, h8⟩), c_bP G3, c_bP G4, c_bP GU, cU, Int.natCast_add, c_nbP (show ¬¬CpT p q from fun h => h hT), c_bP (show 8 < N ∧ CpT p q from ⟨hN8, hT⟩), c_bP GT, cT, gl_s9, c_ble, c_fits]
      · simp (disch := omega) only [cgb_i_ComponentsOf, cgb_i_IsKnot, cgb_i_ShiftGrid, cgb_i_UnionOf, cgb_i_TorusGrid, cgb_s_ComponentsOf, cgb_s_IsKnot, cgb_s_ShiftGrid, cgb_s_UnionOf, cgb_s_TorusGrid, cgb_i_QuarterTurn, cgb_i_ExchangeOf, cgb_w_FnComponents_c29, cgb_w_FnComponents_c40, cgb_w_FnComponents_c51, c_bP G1, c_bP G1s, c_bP G1t, s1, s2, s3, t1, cp_rows3 z g1 hX hO hN8, cp_rows4 z g1 hX hO hN8, cp_met z g1 hX hO (show 100 < N by omega), c_bP H2, first, e1, e2, e3, e4, Int.toNat_natCast, bne_self_eq_false, beq_self_eq_true, Bool.and_true, Bool.true_and, Bool.not_true, Bool.not_false, c_true, c_false, c_nbP hU, c_nbP nL, c_bP (show CpG N m3 X3 O3 ∧ CpG N m4 X4 O4 ∧ (m3 : Int) + (m4 : Int) <= 8 from ⟨G3, G4, h8⟩), c_bP G3, c_bP G4, c_bP GU, cU, Int.natCast_add, c_bP hT, c_ble, c_fits]
    · by_cases hT : CpT p q
      · obtain ⟨h1, h2, h9⟩ := id hT
        obtain ⟨p, rfl⟩ : ∃ m : Nat, p = m := ⟨p.toNat, by omega⟩
        obtain ⟨q, rfl⟩ : ∃ m : Nat, q = m := ⟨q.toNat, by omega⟩
        obtain ⟨GT, cT⟩ := cp_torusG (N := N) (p := p) (q := q) (by omega) (by omega) (by omega) hN8
        have hg : Nat.gcd q p <= 8 := Nat.le_trans (Nat.gcd_le_left p (by omega)) (by omega)
        simp (disch := omega) only [cgb_i_ComponentsOf, cgb_i_IsKnot, cgb_i_ShiftGrid, cgb_i_UnionOf, cgb_i_TorusGrid, cgb_s_ComponentsOf, cgb_s_IsKnot, cgb_s_ShiftGrid, cgb_s_UnionOf, cgb_s_TorusGrid, cgb_i_QuarterTurn, cgb_i_ExchangeOf, cgb_w_FnComponents_c29, cgb_w_FnComponents_c40, cgb_w_FnComponents_c51, c_bP G1, c_bP G1s, c_bP G1t, s1, s2, s3, t1, cp_rows3 z g1 hX hO hN8, cp_rows4 z g1 hX hO hN8, cp_met z g1 hX hO (show 100 < N by omega), c_bP H2, first, e1, e2, e3, e4, Int.toNat_natCast, bne_self_eq_false, beq_self_eq_true, Bool.and_true, Bool.true_and, Bool.not_true, Bool.not_false, c_true, c_false, c_nbP hU, c_bP (show CpG N m3 X3 O3 ∧ CpG N m4 X4 O4 ∧ 8 < (m3 : Int) + (m4 : Int) from ⟨G3, G4, by omega⟩), c_nbP (show ¬¬CpT p q from fun h => h hT), c_bP (show 8 < N ∧ CpT p q from ⟨hN8, hT⟩), c_bP GT, cT, gl_s9, c_ble, c_fits]
      · simp (disch := omega) only [cgb_i_ComponentsOf, cgb_i_IsKnot, cgb_i_ShiftGrid, cgb_i_UnionOf, cgb_i_TorusGrid, cgb_s_ComponentsOf, cgb_s_IsKnot, cgb_s_ShiftGrid, cgb_s_UnionOf, cgb_s_TorusGrid, cgb_i_QuarterTurn, cgb_i_ExchangeOf, cgb_w_FnComponents_c29, cgb_w_FnComponents_c40, cgb_w_FnComponents_c51, c_bP G1, c_bP G1s, c_bP G1t, s1, s2, s3, t1, cp_rows3 z g1 hX hO hN8, cp_rows4 z g1 hX hO hN8, cp_met z g1 hX hO (show 100 < N by omega), c_bP H2, first, e1, e2, e3, e4, Int.toNat_natCast, bne_self_eq_false, beq_self_eq_true, Bool.and_true, Bool.true_and, Bool.not_true, Bool.not_false, c_true, c_false, c_nbP hU, c_bP (show CpG N m3 X3 O3 ∧ CpG N m4 X4 O4 ∧ 8 < (m3 : Int) + (m4 : Int) from ⟨G3, G4, by omega⟩), c_bP hT, c_ble, c_fits]
theorem law_cgg (z : β) {N : Nat} (hN : 5000 < N) {n l c hn : Nat} {h : Nat -> Int} (hl : l <= 4096) {m : Nat} {X O : Nat -> Int} {m2 : Nat} {X2 O2 : Nat -> Int} {v u m3 : Int} {X3 O3 : Nat -> Int} {m4 : Int} {X4 O4 : Nat -> Int} {p q : Int}
    (e1 : ∀ k, q03c z N n l c hn h k = k m X O) (e2 : ∀ k, q03e z N n l c hn h k = k m2 X2 O2 v u) (e3 : ∀ k, q03f z N n l c hn h k = k m3 X3 O3 m4 X4 O4) (e4 : ∀ k, q03i z N n l c hn h k = k p q)
    (g1 : GridP m X O) (hX : Byt X) (hO : Byt O) (g2 : GridP m2 X2 O2) (hX2 : Byt X2) (hO2 : Byt O2) (hR : CpR v u) (hX3 : Byt X3) (hO3 : Byt O3) (hX4 : Byt X4) (hO4 : Byt O4) (k0 : Bool -> β) : cgg_w_FnComponents z N n l c hn h k0 = k0 true := by
  have hN8 : 8 < N := by omega
  have first : ∀ x y : β, cond (decide ((4096 : Int) < l)) x y = y := fun x y => c_nlt (by omega)
  have G1 : CpG N m X O := .mk' hN8 g1 hX hO
  have G1s : CpG N m O X := .mk' hN8 g1.swap hO hX
  obtain ⟨s1, s2, s3⟩ := cp_swap g1 hX hO
  obtain ⟨G1t, t1⟩ := cp_turnG g1 hX hO hN8
  have c1 := cp_le g1 hX hO
  have G2 : CpG N m2 X2 O2 := .mk' hN8 g2 hX2 hO2
  obtain ⟨G2r, r1, r2, r3⟩ := cp_rollG g2 hX2 hO2 hN8 v u
  have c2 := cp_le g2 hX2 hO2
  have hR1 := hR.1
  have hR2 := hR.2
  have hRn : CpR (-v) (-u) := ⟨by omega, by omega⟩
  unfold cgg_w_FnComponents w_big
  rw [c_ble (by omega)]
  by_cases hU : CpU N m3 X3 O3 m4 X4 O4
  · by_cases hT : CpT p q
    · obtain ⟨h1, h2, h9⟩ := id hT
      obtain ⟨p, rfl⟩ : ∃ m : Nat, p = m := ⟨p.toNat, by omega⟩
      obtain ⟨q, rfl⟩ : ∃ m : Nat, q = m := ⟨q.toNat, by omega⟩
      obtain ⟨GT, cT⟩ := cp_torusG (N := N) (p := p) (q := q) (by omega) (by omega) (by omega) hN8
      have hg : Nat.gcd q p <= 8 := Nat.le_trans (Nat.gcd_le_left p (by omega)) (by omega)
      simp (disch := omega) only [cgg_i_ComponentsOf, cgg_i_IsKnot, cgg_i_ShiftGrid, cgg_i_UnionOf, cgg_i_TorusGrid, cgg_s_ComponentsOf, cgg_s_IsKnot, cgg_s_ShiftGrid, cgg_s_UnionOf, cgg_s_TorusGrid, cgg_i_QuarterTurn, cgg_i_ExchangeOf, cgg_w_FnComponents_c29, cgg_w_FnComponents_c40, cgg_w_FnComponents_c51, c_bP G1, c_bP G1s, c_bP G1t, s1, s2, s3, t1, cp_rows3 z g1 hX hO hN8, cp_rows4 z g1 hX hO hN8, cp_met z g1 hX hO (show 100 < N by omega), c_bP (show CpG N m2 X2 O2 ∧ CpR v u from ⟨G2, hR⟩), c_bP (show CpG N m2 (rollP m2 X2 O2 v u).1 (rollP m2 X2 O2 v u).2 ∧ CpR (-v) (-u) from ⟨G2r, hRn⟩), c_bP G2, c_bP G2r, r1, r2, r3, first, e1, e2, e3, e4, Int.toNat_natCast, bne_self_eq_false, beq_self_eq_true, Bool.and_true, Bool.true_and, Bool.not_true, Bool.not_false, c_true, c_false, c_bP hU, c_nbP (show ¬¬CpT p q from fun h => h hT), c_bP (show 8 < N ∧ CpT p q from ⟨hN8, hT⟩), c_bP GT, cT, gl_s9, c_ble, c_fits]
    · simp (disch := omega) only [cgg_i_ComponentsOf, cgg_i_IsKnot, cgg_i_ShiftGrid, cgg_i_UnionOf, cgg_i_TorusGrid, cgg_s_ComponentsOf, cgg_s_IsKnot, cgg_s_ShiftGrid, cgg_s_UnionOf, cgg_s_TorusGrid, cgg_i_QuarterTurn, cgg_i_ExchangeOf, cgg_w_FnComponents_c29, cgg_w_FnComponents_c40, cgg_w_FnComponents_c51, c_bP G1, c_bP G1s, c_bP G1t, s1, s2, s3, t1, cp_rows3 z g1 hX hO hN8, cp_rows4 z g1 hX hO hN8, cp_met z g1 hX hO (show 100 < N by omega), c_bP (show CpG N m2 X2 O2 ∧ CpR v u from ⟨G2, hR⟩), c_bP (show CpG N m2 (rollP m2 X2 O2 v u).1 (rollP m2 X2 O2 v u).2 ∧ CpR (-v) (-u) from ⟨G2r, hRn⟩), c_bP G2, c_bP G2r, r1, r2, r3, first, e1, e2, e3, e4, Int.toNat_natCast, bne_self_eq_false, beq_self_eq_true, Bool.and_true, Bool.true_and, Bool.not_true, Bool.not_false, c_true, c_false, c_bP hU, c_bP hT, c_ble, c_fits]
  · have b3 : gridB m3 X3 O3 = true := by
      cases e : gridB m3 X3 O3 with
      | true => rfl
      | false => exact absurd ⟨hN8, hX3, hO3, hX4, hO4, .inl e⟩ hU
    have b4 : gridB m4 X4 O4 = true := by
      cases e : gridB m4 X4 O4 with
      | true => rfl
      | false => exact absurd ⟨hN8, hX3, hO3, hX4, hO4, .inr e⟩ hU
    obtain ⟨m3, rfl, g3⟩ := gridB_iff.1 b3
    obtain ⟨m4, rfl, g4⟩ := gridB_iff.1 b4
    have G3 : CpG N m3 X3 O3 := .mk' hN8 g3 hX3 hO3
    have G4 : CpG N m4 X4 O4 := .mk' hN8 g4 hX4 hO4
    by_cases h8 : (m3 : Int) + (m4 : Int) <= 8
    · have nL : ¬(CpG N m3 X3 O3 ∧ CpG N m4 X4 O4 ∧ 8 < (m3 : Int) + (m4 : Int)) := fun h => by have := h.2.2; omega
      obtain ⟨GU, cU⟩ := cp_unionG g3 hX3 hO3 g4 hX4 hO4 (by omega) hN8
      have c3 := cp_le g3 hX3 hO3
      have c4 := cp_le g4 hX4 hO4
      by_cases hT : CpT p q
      · obtain ⟨h1, h2, h9⟩ := id hT
        obtain ⟨p, rfl⟩ : ∃ m : Nat, p = m := ⟨p.toNat, by omega⟩
        obtain ⟨q, rfl⟩ : ∃ m : Nat, q = m := ⟨q.toNat, by omega⟩
        obtain ⟨GT, cT⟩ := cp_torusG (N := N) (p := p) (q := q) (by omega) (by omega) (by omega) hN8
        have hg : Nat.gcd q p <= 8 := Nat.le_trans (Nat.gcd_le_left p (by omega)) (by omega)
        simp (disch := omega) only [cgg_i_ComponentsOf, cgg_i_IsKnot, cgg_i_ShiftGrid, cgg_i_UnionOf, cgg_i_TorusGrid, cgg_s_ComponentsOf, cgg_s_IsKnot, cgg_s_ShiftGrid, cgg_s_UnionOf, cgg_s_TorusGrid, cgg_i_QuarterTurn, cgg_i_ExchangeOf, cgg_w_FnComponents_c29, cgg_w_FnComponents_c40, cgg_w_FnComponents_c51, c_bP G1, c_bP G1s, c_bP G1t, s1, s2, s3, t1, cp_rows3 z g1 hX hO hN8, cp_rows4 z g1 hX hO hN8, cp_met z g1 hX hO (show 100 < N by omega), c_bP (show CpG N m2 X2 O2 ∧ CpR v u from ⟨G2, hR⟩), c_bP (show CpG N m2 (rollP m2 X2 O2 v u).1 (rollP m2 X2 O2 v u).2 ∧ CpR (-v) (-u) from ⟨G2r, hRn⟩), c_bP G2, c_bP G2r, r1, r2, r3, first, e1, e2, e3, e4, Int.toNat_natCast, bne_self_eq_false, beq_self_eq_true, Bool.and_true, Bool.true_and, Bool.not_true, Bool.not_false, c_true, c_false, c_nbP hU, c_nbP nL, c_bP (show CpG N m3 X3 O3 ∧ CpG N m4 X4 O4 ∧ (m3 : Int) + (m4 : Int) <= 8 from ⟨G3, G4, h8⟩), c_bP G3, c_bP G4, c_bP GU, cU, Int.natCast_add, c_nbP (show ¬¬CpT p q from fun h => h hT), c_bP (show 8 < N ∧ CpT p q from ⟨hN8, hT⟩), c_bP GT, cT, gl_s9, c_ble, c_fits]
      · simp (disch := omega) only [cgg_i_ComponentsOf, cgg_i_IsKnot, cgg_i_ShiftGrid, cgg_i_UnionOf, cgg_i_TorusGrid, cgg_s_ComponentsOf, cgg_s_IsKnot, cgg_s_ShiftGrid, cgg_s_UnionOf, cgg_s_TorusGrid, cgg_i_QuarterTurn, cgg_i_ExchangeOf, cgg_w_FnComponents_c29, cgg_w_FnComponents_c40, cgg_w_FnComponents_c51, c_bP G1, c_bP G1s, c_bP G1t, s1, s2, s3, t1, cp_rows3 z g1 hX hO hN8, cp_rows4 z g1 hX hO hN8, cp_met z g1 hX hO (show 100 < N by omega), c_bP (show CpG N m2 X2 O2 ∧ CpR v u from ⟨G2, hR⟩), c_bP (show CpG N m2 (rollP m2 X2 O2 v u).1 (rollP m2 X2 O2 v u).2 ∧ CpR (-v) (-u) from ⟨G2r, hRn⟩), c_bP G2, c_bP G2r, r1, r2, r3, first, e1, e2, e3, e4, Int.toNat_natCast, bne_self_eq_false, beq_self_eq_true, Bool.and_true, Bool.true_and, Bool.not_true, Bool.not_false, c_true, c_false, c_nbP hU, c_nbP nL, c_bP (show CpG N m3 X3 O3 ∧ CpG N m4 X4 O4 ∧ (m3 : Int) + (m4 : Int) <= 8 from ⟨G3, G4, h8⟩), c_bP G3, c_bP G4, c_bP GU, cU, Int.natCast_add, c_bP hT, c_ble, c_fits]
    · by_cases hT : CpT p q
      · obtain ⟨h1, h2, h9⟩ := id hT
        obtain ⟨p, rfl⟩ : ∃ m : Nat, p = m := ⟨p.toNat, by omega⟩
        obtain ⟨q, rfl⟩ : ∃ m : Nat, q = m := ⟨q.toNat, by omega⟩
        obtain ⟨GT, cT⟩ := cp_torusG (N := N) (p := p) (q := q) (by omega) (by omega) (by omega) hN8
        have hg : Nat.gcd q p <= 8 := Nat.le_trans (Nat.gcd_le_left p (by omega)) (by omega)
        simp (disch := omega) only [cgg_i_ComponentsOf, cgg_i_IsKnot, cgg_i_ShiftGrid, cgg_i_UnionOf, cgg_i_TorusGrid, cgg_s_ComponentsOf, cgg_s_IsKnot, cgg_s_ShiftGrid, cgg_s_UnionOf, cgg_s_TorusGrid, cgg_i_QuarterTurn, cgg_i_ExchangeOf, cgg_w_FnComponents_c29, cgg_w_FnComponents_c40, cgg_w_FnComponents_c51, c_bP G1, c_bP G1s, c_bP G1t, s1, s2, s3, t1, cp_rows3 z g1 hX hO hN8, cp_rows4 z g1 hX hO hN8, cp_met z g1 hX hO (show 100 < N by omega), c_bP (show CpG N m2 X2 O2 ∧ CpR v u from ⟨G2, hR⟩), c_bP (show CpG N m2 (rollP m2 X2 O2 v u).1 (rollP m2 X2 O2 v u).2 ∧ CpR (-v) (-u) from ⟨G2r, hRn⟩), c_bP G2, c_bP G2r, r1, r2, r3, first, e1, e2, e3, e4, Int.toNat_natCast, bne_self_eq_false, beq_self_eq_true, Bool.and_true, Bool.true_and, Bool.not_true, Bool.not_false, c_true, c_false, c_nbP hU, c_bP (show CpG N m3 X3 O3 ∧ CpG N m4 X4 O4 ∧ 8 < (m3 : Int) + (m4 : Int) from ⟨G3, G4, by omega⟩), c_nbP (show ¬¬CpT p q from fun h => h hT), c_bP (show 8 < N ∧ CpT p q from ⟨hN8, hT⟩), c_bP GT, cT, gl_s9, c_ble, c_fits]
      · simp (disch := omega) only [cgg_i_ComponentsOf, cgg_i_IsKnot, cgg_i_ShiftGrid, cgg_i_UnionOf, cgg_i_TorusGrid, cgg_s_ComponentsOf, cgg_s_IsKnot, cgg_s_ShiftGrid, cgg_s_UnionOf, cgg_s_TorusGrid, cgg_i_QuarterTurn, cgg_i_ExchangeOf, cgg_w_FnComponents_c29, cgg_w_FnComponents_c40, cgg_w_FnComponents_c51, c_bP G1, c_bP G1s, c_bP G1t, s1, s2, s3, t1, cp_rows3 z g1 hX hO hN8, cp_rows4 z g1 hX hO hN8, cp_met z g1 hX hO (show 100 < N by omega), c_bP (show CpG N m2 X2 O2 ∧ CpR v u from ⟨G2, hR⟩), c_bP (show CpG N m2 (rollP m2 X2 O2 v u).1 (rollP m2 X2 O2 v u).2 ∧ CpR (-v) (-u) from ⟨G2r, hRn⟩), c_bP G2, c_bP G2r, r1, r2, r3, first, e1, e2, e3, e4, Int.toNat_natCast, bne_self_eq_false, beq_self_eq_true, Bool.and_true, Bool.true_and, Bool.not_true, Bool.not_false, c_true, c_false, c_nbP hU, c_bP (show CpG N m3 X3 O3 ∧ CpG N m4 X4 O4 ∧ 8 < (m3 : Int) + (m4 : Int) from ⟨G3, G4, by omega⟩), c_bP hT, c_ble, c_fits]
theorem w_FnComponents_or (z : β) {N : Nat} (hN : 5000 < N) (n l c hn : Nat) (h : Nat -> Int) (hq : n = hn) (hl : l = hn) (hs : l <= 9223372036854775807) (hb : ∀ j, j < hn -> 0 <= h j ∧ h j <= 255) :
    (∀ k0, cbb_w_FnComponents z N n l c hn h k0 = k0 true) ∨ (∀ k0, cgg_w_FnComponents z N n l c hn h k0 = k0 true) ∨ (∀ k0, cbg_w_FnComponents z N n l c hn h k0 = k0 true) ∨ (∀ k0, cgb_w_FnComponents z N n l c hn h k0 = k0 true) := by
  by_cases hbig : (4096 : Int) < l
  · refine .inl fun k0 => ?_
    unfold cbb_w_FnComponents w_big
    rw [c_ble (by omega), decide_eq_true hbig]
    rfl
  have S : Src hn h n l := ⟨hq, by omega, by omega, hb⟩
  have hl4 : l <= 4096 := by omega
  have hN8 : 8 < N := by omega
  obtain ⟨m, X, O, hX, hO, e1⟩ := drawComps_val z hN S c
  obtain ⟨m2, X2, O2, v, u, hX2, hO2, e2⟩ := drawShift_val z hN S c
  obtain ⟨m3, X3, O3, m4, X4, O4, hX3, hO3, hX4, hO4, e3⟩ := drawUnion_val z hN S c
  obtain ⟨p, q, e4⟩ := drawTorus_val z hN S c
  cases b1 : gridB m X O with
  | false =>
    have H1 : CpB N m X O := ⟨hN8, b1, hX, hO⟩
    by_cases b2 : gridB m2 X2 O2 = true ∧ CpR v u
    · obtain ⟨m2, rfl, g2⟩ := gridB_iff.1 b2.1
      exact .inr (.inr (.inl fun k0 => law_cbg z hN hl4 e1 e2 e3 e4 H1 g2 hX2 hO2 b2.2 hX3 hO3 hX4 hO4 k0))
    · exact .inl fun k0 => law_cbb z hN hl4 e1 e2 e3 e4 H1 ⟨hN8, hX2, hO2, b2⟩ hX3 hO3 hX4 hO4 k0
  | true =>
    obtain ⟨m, rfl, g1⟩ := gridB_iff.1 b1
    by_cases b2 : gridB m2 X2 O2 = true ∧ CpR v u
    · obtain ⟨m2, rfl, g2⟩ := gridB_iff.1 b2.1
      exact .inr (.inl fun k0 => law_cgg z hN hl4 e1 e2 e3 e4 g1 hX hO g2 hX2 hO2 b2.2 hX3 hO3 hX4 hO4 k0)
    · exact .inr (.inr (.inr fun k0 => law_cgb z hN hl4 e1 e2 e3 e4 g1 hX hO ⟨hN8, hX2, hO2, b2⟩ hX3 hO3 hX4 hO4 k0))
end
end Go.AM
