/- A part of a proof about the given program: an abstract machine, what the given functions come to, and plain laws. -/
import Derived.Test.YtoginabccpjeoaaPallLawExchanges1
import Derived.Test.YtoginabccpjeoaaDallLawExchanges1
set_option linter.unusedVariables false
set_option linter.unusedSimpArgs false
set_option maxRecDepth 100000
namespace Go.AM
/-- laws.FnExchanges -/
noncomputable def xt_w_FnExchanges {β : Type} (z : β) (N : Nat) (code_n : Nat) (code_l : Nat) (code_c : Nat) (h0_n : Nat) (h0 : Nat → Int) (k0 : Bool → β) : β :=
  w_big z N code_n code_l code_c h0_n h0 (fun q8 => cond (q8) (k0 true) (s_DrawExchangeColumns z N code_n code_l code_c h0_n h0 (fun q9 q10 q11 q12 => xt_i_ExchangeColumns z N q9 q10 q11 q12 (fun q13 q14 q15 => xt_s_ExchangeColumns z N q9 q10 q11 q12 (fun q16 q17 q18 => cond (!(q13 == q16 && (q14 0 == q17 0 && (q14 1 == q17 1 && (q14 2 == q17 2 && (q14 3 == q17 3 && (q14 4 == q17 4 && (q14 5 == q17 5 && (q14 6 == q17 6 && (q14 7 == q17 7 && (q15 0 == q18 0 && (q15 1 == q18 1 && (q15 2 == q18 2 && (q15 3 == q18 3 && (q15 4 == q18 4 && (q15 5 == q18 5 && (q15 6 == q18 6 && (q15 7 == q18 7 && true)))))))))))))))))) (k0 false) (xt_i_CanExchangeColumns z N q9 q10 q11 q12 (xt_s_CanExchangeColumns z N q9 q10 q11 q12 (s_DrawExchangeRows z N code_n code_l code_c h0_n h0 (fun q19 q20 q21 q22 => xt_i_ExchangeRows z N q19 q20 q21 q22 (fun q23 q24 q25 => xt_s_ExchangeRows z N q19 q20 q21 q22 (fun q26 q27 q28 => cond (!(q23 == q26 && (q24 0 == q27 0 && (q24 1 == q27 1 && (q24 2 == q27 2 && (q24 3 == q27 3 && (q24 4 == q27 4 && (q24 5 == q27 5 && (q24 6 == q27 6 && (q24 7 == q27 7 && (q25 0 == q28 0 && (q25 1 == q28 1 && (q25 2 == q28 2 && (q25 3 == q28 3 && (q25 4 == q28 4 && (q25 5 == q28 5 && (q25 6 == q28 6 && (q25 7 == q28 7 && true)))))))))))))))))) (k0 false) (xt_i_CanExchangeRows z N q19 q20 q21 q22 (xt_s_CanExchangeRows z N q19 q20 q21 q22 (xt_i_ExchangeRows z N q23 q24 q25 q22 (fun q29 q30 q31 => cond (!(q29 == q19 && (q30 0 == q20 0 && (q30 1 == q20 1 && (q30 2 == q20 2 && (q30 3 == q20 3 && (q30 4 == q20 4 && (q30 5 == q20 5 && (q30 6 == q20 6 && (q30 7 == q20 7 && (q31 0 == q21 0 && (q31 1 == q21 1 && (q31 2 == q21 2 && (q31 3 == q21 3 && (q31 4 == q21 4 && (q31 5 == q21 5 && (q31 6 == q21 6 && (q31 7 == q21 7 && true)))))))))))))))))) (k0 false) (xt_i_TransposeOf z N q9 q10 q11 (fun q32 q33 q34 => xt_i_CanExchangeRows z N q32 q33 q34 q12 (xt_i_ExchangeColumns z N q13 q14 q15 q12 (fun q35 q36 q37 => xt_i_ExchangeRows z N q32 q33 q34 q12 (fun q38 q39 q40 => xt_i_TransposeOf z N q13 q14 q15 (fun q41 q42 q43 => cond (q35 == q9 && (q36 0 == q10 0 && (q36 1 == q10 1 && (q36 2 == q10 2 && (q36 3 == q10 3 && (q36 4 == q10 4 && (q36 5 == q10 5 && (q36 6 == q10 6 && (q36 7 == q10 7 && (q37 0 == q11 0 && (q37 1 == q11 1 && (q37 2 == q11 2 && (q37 3 == q11 3 && (q37 4 == q11 4 && (q37 5 == q11 5 && (q37 6 == q11 6 && (q37 7 == q11 7 && true))))))))))))))))) (k0 (q38 == q41 && (q39 0 == q42 0 && (q39 1 == q42 1 && (q39 2 == q42 2 && (q39 3 == q42 3 && (q39 4 == q42 4 && (q39 5 == q42 5 && (q39 6 == q42 6 && (q39 7 == q42 7 && (q40 0 == q43 0 && (q40 1 == q43 1 && (q40 2 == q43 2 && (q40 3 == q43 3 && (q40 4 == q43 4 && (q40 5 == q43 5 && (q40 6 == q43 6 && (q40 7 == q43 7 && true)))))))))))))))))) (k0 false))) (xt_i_TransposeOf z N q13 q14 q15 (fun q38 q39 q40 => cond (q35 == q9 && (q36 0 == q10 0 && (q36 1 == q10 1 && (q36 2 == q10 2 && (q36 3 == q10 3 && (q36 4 == q10 4 && (q36 5 == q10 5 && (q36 6 == q10 6 && (q36 7 == q10 7 && (q37 0 == q11 0 && (q37 1 == q11 1 && (q37 2 == q11 2 && (q37 3 == q11 3 && (q37 4 == q11 4 && (q37 5 == q11 5 && (q37 6 == q11 6 && (q37 7 == q11 7 && true))))))))))))))))) (k0 false) (k0 false))))) (k0 false)))) (k0 false)) (k0 false)) (xt_s_CanExchangeRows z N q19 q20 q21 q22 (k0 false) (xt_i_ExchangeRows z N q23 q24 q25 q22 (fun q29 q30 q31 => cond (!(q29 == q19 && (q30 0 == q20 0 && (q30 1 == q20 1 && (q30 2 == q20 2 && (q30 3 == q20 3 && (q30 4 == q20 4 && (q30 5 == q20 5 && (q30 6 == q20 6 && (q30 7 == q20 7 && (q31 0 == q21 0 && (q31 1 == q21 1 && (q31 2 == q21 2 && (q31 3 == q21 3 && (q31 4 == q21 4 && (q31 5 == q21 5 && (q31 6 == q21 6 && (q31 7 == q21 7 && true)))))))))))))))))) (k0 false) (k0 false)) (k0 false))))) (k0 false)) (xt_s_ExchangeRows z N q19 q20 q21 q22 (fun q23 q24 q25 => k0 false) (xt_i_CanExchangeRows z N q19 q20 q21 q22 (xt_s_CanExchangeRows z N q19 q20 q21 q22 (xt_i_TransposeOf z N q9 q10 q11 (fun q23 q24 q25 => xt_i_CanExchangeRows z N q23 q24 q25 q12 (xt_i_ExchangeColumns z N q13 q14 q15 q12 (fun q26 q27 q28 => xt_i_ExchangeRows z N q23 q24 q25 q12 (fun q29 q30 q31 => xt_i_TransposeOf z N q13 q14 q15 (fun q32 q33 q34 => cond (q26 == q9 && (q27 0 == q10 0 && (q27 1 == q10 1 && (q27 2 == q10 2 && (q27 3 == q10 3 && (q27 4 == q10 4 && (q27 5 == q10 5 && (q27 6 == q10 6 && (q27 7 == q10 7 && (q28 0 == q11 0 && (q28 1 == q11 1 && (q28 2 == q11 2 && (q28 3 == q11 3 && (q28 4 == q11 4 && (q28 5 == q11 5 && (q28 6 == q11 6 && (q28 7 == q11 7 && true))))))))))))))))) (k0 (q29 == q32 && (q30 0 == q33 0 && (q30 1 == q33 1 && (q30 2 == q33 2 && (q30 3 == q33 3 && (q30 4 == q33 4 && (q30 5 == q33 5 && (q30 6 == q33 6 && (q30 7 == q33 7 && (q31 0 == q34 0 && (q31 1 == q34 1 && (q31 2 == q34 2 && (q31 3 == q34 3 && (q31 4 == q34 4 && (q31 5 == q34 5 && (q31 6 == q34 6 && (q31 7 == q34 7 && true)))))))))))))))))) (k0 false))) (xt_i_TransposeOf z N q13 q14 q15 (fun q29 q30 q31 => cond (q26 == q9 && (q27 0 == q10 0 && (q27 1 == q10 1 && (q27 2 == q10 2 && (q27 3 == q10 3 && (q27 4 == q10 4 && (q27 5 == q10 5 && (q27 6 == q10 6 && (q27 7 == q10 7 && (q28 0 == q11 0 && (q28 1 == q11 1 && (q28 2 == q11 2 && (q28 3 == q11 3 && (q28 4 == q11 4 && (q28 5 == q11 5 && (q28 6 == q11 6 && (q28 7 == q11 7 && true))))))))))))))))) (k0 false) (k0 false))))) (k0 false))) (k0 false)) (xt_s_CanExchangeRows z N q19 q20 q21 q22 (k0 false) (xt_i_TransposeOf z N q9 q10 q11 (fun q23 q24 q25 => xt_i_CanExchangeRows z N q23 q24 q25 q12 (xt_i_ExchangeColumns z N q13 q14 q15 q12 (fun q26 q27 q28 => xt_i_ExchangeRows z N q23 q24 q25 q12 (fun q29 q30 q31 => xt_i_TransposeOf z N q13 q14 q15 (fun q32 q33 q34 => cond (q26 == q9 && (q27 0 == q10 0 && (q27 1 == q10 1 && (q27 2 == q10 2 && (q27 3 == q10 3 && (q27 4 == q10 4 && (q27 5 == q10 5 && (q27 6 == q10 6 && (q27 7 == q10 7 && (q28 0 == q11 0 && (q28 1 == q11 1 && (q28 2 == q11 2 && (q28 3 == q11 3 && (q28 4 == q11 4 && (q28 5 == q11 5 && (q28 6 == q11 6 && (q28 7 == q11 7 && true))))))))))))))))) (k0 (q29 == q32 && (q30 0 == q33 0 && (q30 1 == q33 1 && (q30 2 == q33 2 && (q30 3 == q33 3 && (q30 4 == q33 4 && (q30 5 == q33 5 && (q30 6 == q33 6 && (q30 7 == q33 7 && (q31 0 == q34 0 && (q31 1 == q34 1 && (q31 2 == q34 2 && (q31 3 == q34 3 && (q31 4 == q34 4 && (q31 5 == q34 5 && (q31 6 == q34 6 && (q31 7 == q34 7 && true)))))))))))))))))) (k0 false))) (xt_i_TransposeOf z N q13 q14 q15 (fun q29 q30 q31 => cond (q26 == q9 && (q27 0 == q10 0 && (q27 1 == q10 1 && (q27 2 == q10 2 && (q27 3 == q10 3 && (q27 4 == q10 4 && (q27 5 == q10 5 && (q27 6 == q10 6 && (q27 7 == q10 7 && (q28 0 == q11 0 && (q28 1 == q11 1 && (q28 2 == q11 2 && (q28 3 == q11 3 && (q28 4 == q11 4 && (q28 5 == q11 5 && (q28 6 == q11 6 && (q28 7 == q11 7 && true))))))))))))))))) (k0 false) (k0 false))))) (k0 false)))))))))))))))
end Go.AM

set_option maxRecDepth 100000
namespace Go.AM
/-- laws.FnExchanges -/
noncomputable def xf_w_FnExchanges {β : Type} (z : β) (N : Nat) (code_n : Nat) (code_l : Nat) (code_c : Nat) (h0_n : Nat) (h0 : Nat → Int) (k0 : Bool → β) : β :=
  w_big z N code_n code_l code_c h0_n h0 (fun q8 => cond (q8) (k0 true) (s_DrawExchangeColumns z N code_n code_l code_c h0_n h0 (fun q9 q10 q11 q12 => xf_i_ExchangeColumns z N q9 q10 q11 q12 (xf_s_ExchangeColumns z N q9 q10 q11 q12 (xf_i_CanExchangeColumns z N q9 q10 q11 q12 (xf_s_CanExchangeColumns z N q9 q10 q11 q12 (s_DrawExchangeRows z N code_n code_l code_c h0_n h0 (fun q13 q14 q15 q16 => xf_i_ExchangeRows z N q13 q14 q15 q16 (fun q17 q18 q19 => xf_s_ExchangeRows z N q13 q14 q15 q16 (fun q20 q21 q22 => cond (!(q17 == q20 && (q18 0 == q21 0 && (q18 1 == q21 1 && (q18 2 == q21 2 && (q18 3 == q21 3 && (q18 4 == q21 4 && (q18 5 == q21 5 && (q18 6 == q21 6 && (q18 7 == q21 7 && (q19 0 == q22 0 && (q19 1 == q22 1 && (q19 2 == q22 2 && (q19 3 == q22 3 && (q19 4 == q22 4 && (q19 5 == q22 5 && (q19 6 == q22 6 && (q19 7 == q22 7 && true)))))))))))))))))) (k0 false) (xf_i_CanExchangeRows z N q13 q14 q15 q16 (xf_s_CanExchangeRows z N q13 q14 q15 q16 (xf_i_ExchangeRows z N q17 q18 q19 q16 (fun q23 q24 q25 => cond (!(q23 == q13 && (q24 0 == q14 0 && (q24 1 == q14 1 && (q24 2 == q14 2 && (q24 3 == q14 3 && (q24 4 == q14 4 && (q24 5 == q14 5 && (q24 6 == q14 6 && (q24 7 == q14 7 && (q25 0 == q15 0 && (q25 1 == q15 1 && (q25 2 == q15 2 && (q25 3 == q15 3 && (q25 4 == q15 4 && (q25 5 == q15 5 && (q25 6 == q15 6 && (q25 7 == q15 7 && true)))))))))))))))))) (k0 false) (xf_i_TransposeOf z N q9 q10 q11 (fun q26 q27 q28 => xf_i_CanExchangeRows z N q26 q27 q28 q12 (k0 false) (k0 true)))) (k0 false)) (k0 false)) (xf_s_CanExchangeRows z N q13 q14 q15 q16 (k0 false) (xf_i_ExchangeRows z N q17 q18 q19 q16 (fun q23 q24 q25 => cond (!(q23 == q13 && (q24 0 == q14 0 && (q24 1 == q14 1 && (q24 2 == q14 2 && (q24 3 == q14 3 && (q24 4 == q14 4 && (q24 5 == q14 5 && (q24 6 == q14 6 && (q24 7 == q14 7 && (q25 0 == q15 0 && (q25 1 == q15 1 && (q25 2 == q15 2 && (q25 3 == q15 3 && (q25 4 == q15 4 && (q25 5 == q15 5 && (q25 6 == q15 6 && (q25 7 == q15 7 && true)))))))))))))))))) (k0 false) (k0 false)) (k0 false))))) (k0 false)) (xf_s_ExchangeRows z N q13 q14 q15 q16 (fun q17 q18 q19 => k0 false) (xf_i_CanExchangeRows z N q13 q14 q15 q16 (xf_s_CanExchangeRows z N q13 q14 q15 q16 (xf_i_TransposeOf z N q9 q10 q11 (fun q17 q18 q19 => xf_i_CanExchangeRows z N q17 q18 q19 q12 (k0 false) (k0 true))) (k0 false)) (xf_s_CanExchangeRows z N q13 q14 q15 q16 (k0 false) (xf_i_TransposeOf z N q9 q10 q11 (fun q17 q18 q19 => xf_i_CanExchangeRows z N q17 q18 q19 q12 (k0 false) (k0 true))))))))))))))
end Go.AM

namespace Go.AM
section
variable {β : Type}
theorem exR_not {N n q : Nat} {X O : Nat → Int} (h : rowsB n X O q = false) : ¬ ExR true N n X O q := by
  rintro ⟨n2, q2, ⟨_, h1, h2, _, _⟩, h3⟩
  have : n2 = n := by omega
  have : q2 = q := by omega
  subst n2 q2
  rw [h] at h3
  cases h3
theorem w_FnExchanges_or (z : β) {N : Nat} (hN : 5000 < N) (n l c hn : Nat) (h : Nat → Int) (hq : n = hn) (hl : l = hn) (hs : l ≤ 9223372036854775807) (hb : ∀ j, j < hn → 0 ≤ h j ∧ h j ≤ 255) :
    (∀ k0, ca_w_FnExchanges z N n l c hn h k0 = k0 true) ∨ (∀ k0, cb_w_FnExchanges z N n l c hn h k0 = k0 true) ∨ (∀ k0, xt_w_FnExchanges z N n l c hn h k0 = k0 true) ∨ (∀ k0, xf_w_FnExchanges z N n l c hn h k0 = k0 true) := by
  have N8 : 8 < N := by omega
  by_cases hbig : (4096 : Int) < l
  · refine .inl fun k0 => ?_
    unfold ca_w_FnExchanges w_big
    rw [c_ble (by omega), decide_eq_true hbig]
    rfl
  have S : Src hn h n l := ⟨hq, by omega, by omega, hb⟩
  obtain ⟨m, X, O, i, hm, hX, hO, hi, e⟩ := two_val z hN S c
  have first : ∀ x y : β, cond (decide ((4096 : Int) < l)) x y = y := fun x y => c_nlt (by omega)
  cases hg : gridB m X O with
  | false =>
    refine .inl fun k0 => ?_
    have P : ExA N m X O i := ⟨N8, hX, hO, hg⟩
    unfold ca_w_FnExchanges w_big
    rw [c_ble (by omega)]
    simp only [first, s_DrawExchangeColumns, s_DrawExchangeRows, e, ca_i_ExchangeColumns, ca_s_ExchangeColumns, ca_i_CanExchangeColumns, ca_s_CanExchangeColumns, ca_i_ExchangeRows, ca_s_ExchangeRows, ca_i_CanExchangeRows, ca_s_CanExchangeRows, c_bP P]
  | true =>
    by_cases hp : 0 ≤ i ∧ i ≤ m - 2
    case neg =>
      refine .inr (.inl fun k0 => ?_)
      have P : ExB N m X O i := ⟨N8, hX, hO, hg, hp⟩
      unfold cb_w_FnExchanges w_big
      rw [c_ble (by omega)]
      simp only [first, s_DrawExchangeColumns, s_DrawExchangeRows, e, cb_i_ExchangeColumns, cb_s_ExchangeColumns, cb_i_CanExchangeColumns, cb_s_CanExchangeColumns, cb_i_ExchangeRows, cb_s_ExchangeRows, cb_i_CanExchangeRows, cb_s_CanExchangeRows, c_bP P]
    case pos =>
      obtain ⟨n', rfl, g⟩ := gridB_iff.1 hg
      obtain ⟨q, rfl⟩ : ∃ q : Nat, i = q := ⟨i.toNat, by omega⟩
      have hq' : q + 1 < n' := by omega
      have G : GridZ n' X O := ⟨g, fun j => by have := hX.b j; omega, fun j => by have := hO.b j; omega, hX.z, hO.z⟩
      have T := trans_grid G
      have W := swC_grid hq' G
      have U := swapF_grid hq' G
      have tr := trans_rows G hq'
      have ap2 : apart2 (swC q X q) (swC q O q) (swC q X (q + 1)) (swC q O (q + 1)) = apart2 (X q) (O q) (X (q + 1)) (O (q + 1)) := by
        rw [swC_at, swC_at, swC_at, swC_at, if_pos rfl, if_neg (by omega), if_pos rfl, apart2_turn]
      have t1 : (transP n' (swC q X) (swC q O)).1 = swapF n' q (transP n' X O).1 := by rw [trans_swap G hq']
      have t2 : (transP n' (swC q X) (swC q O)).2 = swapF n' q (transP n' X O).2 := by rw [trans_swap G hq']
      have g1 : ExG N n' X O := ⟨N8, n', rfl, G⟩
      have g2 : ExG N n' (swC q X) (swC q O) := ⟨N8, n', rfl, W⟩
      have b1 : ∀ a : Int, (a != a) = false := fun a => by simp
      have b2 : ∀ a : Int, (a == a) = true := fun a => by simp
      have b3 : ∀ a : Bool, (a != a) = false := by decide
      have q5 : ((5 : Int) == 0) = false := rfl
      cases ha : apart2 (X q) (O q) (X (q + 1)) (O (q + 1)) with
      | true =>
        refine .inr (.inr (.inl fun k0 => ?_))
        have P : ExT true N n' X O q := ⟨n', q, ⟨N8, rfl, rfl, hq', G⟩, ha⟩
        have P2 : ExT true N n' (swC q X) (swC q O) q := ⟨n', q, ⟨N8, rfl, rfl, hq', W⟩, by rw [ap2, ha]⟩
        unfold xt_w_FnExchanges w_big
        rw [c_ble (by omega)]
        rw [ha] at tr
        have RT : ExR true N n' (transP n' X O).1 (transP n' X O).2 q := ⟨n', q, ⟨N8, rfl, rfl, hq', T⟩, tr⟩
        simp only [first, s_DrawExchangeColumns, s_DrawExchangeRows, e, xt_i_ExchangeColumns, xt_s_ExchangeColumns, xt_i_CanExchangeColumns, xt_s_CanExchangeColumns, xt_i_TransposeOf, xt_i_ExchangeRows, xt_s_ExchangeRows, xt_i_CanExchangeRows, xt_s_CanExchangeRows,
          c_bP P, c_bP P2, c_bP g1, c_bP g2, c_bP RT, Int.toNat_natCast, swC_inv, t1, t2, b1, b2, b3, c_false, c_true, Bool.not_true, Bool.and_true, Bool.not_false]
        cases hr : rowsB n' X O q
        · have R : ExR false N n' X O q := ⟨n', q, ⟨N8, rfl, rfl, hq', G⟩, hr⟩
          simp only [c_bP R, c_nbP (exR_not (N := N) hr), c_false, c_true, b1, b2, b3, q5, Bool.not_true, Bool.and_true, Bool.not_false]
        · have R : ExR true N n' X O q := ⟨n', q, ⟨N8, rfl, rfl, hq', G⟩, hr⟩
          have R2 : ExR true N n' (swapF n' q X) (swapF n' q O) q := ⟨n', q, ⟨N8, rfl, rfl, hq', U⟩, by rw [rowsB_swapF G hq', hr]⟩
          simp only [c_bP R, c_bP R2, c_false, c_true, b1, b2, b3, q5, Bool.not_true, Bool.and_true, Bool.not_false, swapF_inv]
      | false =>
        refine .inr (.inr (.inr fun k0 => ?_))
        have P : ExT false N n' X O q := ⟨n', q, ⟨N8, rfl, rfl, hq', G⟩, ha⟩
        unfold xf_w_FnExchanges w_big
        rw [c_ble (by omega)]
        rw [ha] at tr
        have RT : ExR false N n' (transP n' X O).1 (transP n' X O).2 q := ⟨n', q, ⟨N8, rfl, rfl, hq', T⟩, tr⟩
        simp only [first, s_DrawExchangeColumns, s_DrawExchangeRows, e, xf_i_ExchangeColumns, xf_s_ExchangeColumns, xf_i_CanExchangeColumns, xf_s_CanExchangeColumns, xf_i_TransposeOf, xf_i_ExchangeRows, xf_s_ExchangeRows, xf_i_CanExchangeRows, xf_s_CanExchangeRows,
          c_bP P, c_bP g1, c_bP RT, c_nbP (exR_not (N := N) tr), Int.toNat_natCast, b1, b2, b3, c_false, c_true, Bool.not_true, Bool.and_true, Bool.not_false]
        cases hr : rowsB n' X O q
        · have R : ExR false N n' X O q := ⟨n', q, ⟨N8, rfl, rfl, hq', G⟩, hr⟩
          simp only [c_bP R, c_nbP (exR_not (N := N) hr), c_false, c_true, b1, b2, b3, q5, Bool.not_true, Bool.and_true, Bool.not_false]
        · have R : ExR true N n' X O q := ⟨n', q, ⟨N8, rfl, rfl, hq', G⟩, hr⟩
          have R2 : ExR true N n' (swapF n' q X) (swapF n' q O) q := ⟨n', q, ⟨N8, rfl, rfl, hq', U⟩, by rw [rowsB_swapF G hq', hr]⟩
          simp only [c_bP R, c_bP R2, c_false, c_true, b1, b2, b3, q5, Bool.not_true, Bool.and_true, Bool.not_false, swapF_inv]
end
end Go.AM
