/- A part of a proof about the given program: an abstract machine, what the given functions come to, and plain laws. -/
import Derived.Test.YtkboldcnkkolkaaAMStore
namespace Go.AM
theorem fits_iff (k : IntKind) (x : Int) : fits k x = true ↔ kmin k ≤ x ∧ x ≤ kmax k := by
  cases x with
  | ofNat n => cases k <;> simp only [fits, kmax, kmin, Nat.ble_eq, Int.ofNat_eq_natCast] <;> omega
  | negSucc n => cases k <;> simp [fits, kmax, kmin, signed, Nat.ble_eq] <;> omega
theorem wrap_fits {k : IntKind} {x : Int} (h : fits k x = true) : k.wrap x = x := by
  rw [fits_iff] at h
  cases k <;> simp [IntKind.wrap, IntKind.bits, IntKind.signed, kmin, kmax] at h ⊢ <;> omega
theorem fits_wrap (k : IntKind) (x : Int) : fits k (k.wrap x) = true := by
  rw [fits_iff]
  cases k <;> simp [IntKind.wrap, IntKind.bits, IntKind.signed, kmin, kmax] <;> omega
theorem wrapU_eq {k : IntKind} (hs : signed k = false) (x : Int) : k.wrap x = wrapU k x := by
  cases k <;> simp [signed] at hs <;> simp [IntKind.wrap, IntKind.bits, IntKind.signed, wrapU, kmod]
theorem fits_wider {k k' : IntKind} {x : Int} (h : wider k k' = true) (hx : fits k x = true) : fits k' x = true := by
  rw [fits_iff] at *
  simp only [wider, Bool.and_eq_true, decide_eq_true_eq] at h
  omega
theorem kbits_eq (k : IntKind) : kbits k = k.bits := by cases k <;> rfl
theorem fits_and (k : IntKind) (a b : Int) (op : BinOp) : fits k (bitI op k a b) = true := by
  unfold bitI
  split <;> exact fits_wrap _ _

section
variable {α : Type} {P : Program} {r : α}
/-- What 'toKind' hands on is the wrapped number. -/
theorem toKind_spec {k : IntKind} {x : Int} {K : AV → Option α} (h : toKind k x K = some r) : K (.int k (k.wrap x)) = some r ∧ fits k (k.wrap x) = true := by
  refine ⟨?_, fits_wrap _ _⟩
  cases k <;> simp only [toKind] at h
  case i8 => obtain ⟨h1, h2⟩ := br_fail h; rw [wrap_fits h1]; exact h2
  case i16 => obtain ⟨h1, h2⟩ := br_fail h; rw [wrap_fits h1]; exact h2
  case i32 => obtain ⟨h1, h2⟩ := br_fail h; rw [wrap_fits h1]; exact h2
  case i64 => obtain ⟨h1, h2⟩ := br_fail h; rw [wrap_fits h1]; exact h2
  all_goals rw [wrapU_eq rfl]; exact h

theorem tmod_bd (a b : Int) : (0 ≤ a → 0 ≤ a.tmod b ∧ a.tmod b ≤ a) ∧ (a < 0 → a ≤ a.tmod b ∧ a.tmod b ≤ 0) := by
  cases a with
  | ofNat m =>
    refine ⟨fun _ => ?_, fun h => by simp at h; omega⟩
    cases b with
    | ofNat n =>
      have e : (Int.ofNat m).tmod (Int.ofNat n) = Int.ofNat (m % n) := rfl
      have := Nat.mod_le m n
      rw [e]
      generalize m % n = q at *
      simp only [Int.ofNat_eq_natCast]
      omega
    | negSucc n =>
      have e : (Int.ofNat m).tmod (Int.negSucc n) = Int.ofNat (m % (n + 1)) := rfl
      have := Nat.mod_le m (n + 1)
      rw [e]
      generalize m % (n + 1) = q at *
      simp only [Int.ofNat_eq_natCast]
      omega
  | negSucc m =>
    refine ⟨fun h => by have := Int.negSucc_lt_zero m; omega, fun _ => ?_⟩
    cases b with
    | ofNat n =>
      have e : (Int.negSucc m).tmod (Int.ofNat n) = -Int.ofNat ((m + 1) % n) := rfl
      have := Nat.mod_le (m + 1) n
      rw [e]
      generalize (m + 1) % n = q at *
      simp only [Int.ofNat_eq_natCast]
      omega
    | negSucc n =>
      have e : (Int.negSucc m).tmod (Int.negSucc n) = -Int.ofNat ((m + 1) % (n + 1)) := rfl
      have := Nat.mod_le (m + 1) (n + 1)
      rw [e]
      generalize (m + 1) % (n + 1) = q at *
      simp only [Int.ofNat_eq_natCast]
      omega
theorem fits_tmod {k : IntKind} {a b : Int} (h : fits k a = true) : fits k (a.tmod b) = true := by
  rw [fits_iff] at *
  have h1 := tmod_bd a b
  have h2 : kmin k ≤ 0 := by cases k <;> decide
  have h3 : 0 ≤ kmax k := by cases k <;> decide
  by_cases ha : 0 ≤ a
  · have := h1.1 ha; omega
  · have := h1.2 (by omega); omega
theorem fits_shr {k : IntKind} {a b : Int} (h : fits k a = true) : fits k (shrI a b) = true := by
  rw [fits_iff] at *
  have h2 : kmin k ≤ 0 := by cases k <;> decide
  have h3 : 0 ≤ kmax k := by cases k <;> decide
  unfold shrI
  have hp : (1 : Int) ≤ 2 ^ b.toNat := by
    have := Nat.one_le_two_pow (n := b.toNat)
    exact_mod_cast this
  rw [Int.fdiv_eq_ediv_of_nonneg _ (by omega)]
  by_cases ha : 0 ≤ a
  · have q1 := Int.ediv_nonneg ha (by omega : (0 : Int) ≤ 2 ^ b.toNat)
    have q2 := Int.ediv_le_self (2 ^ b.toNat) ha
    omega
  · have q1 : a / 2 ^ b.toNat < 0 := Int.ediv_neg_of_neg_of_pos (by omega) (by omega)
    have q2 : a ≤ a / 2 ^ b.toNat := by
      rw [Int.le_ediv_iff_mul_le (by omega)]
      have := Int.mul_le_mul_of_nonpos_left (by omega : a ≤ 0) hp
      simpa using this
    omega

/-- Operations on values alone: the value is that which the model reckons. -/
theorem goBin_sound {op : BinOp} {x y : AV} {K : AV → Option α} (he : goBin op x y K = some r) :
    ∃ v, K v = some r ∧ ∀ (h : Heap) (μ : LMap) (t : TypeId) (xo yo : Operand) (c d : Value) (w : World), VR h μ x c → VR h μ y d →
      ∃ e, (do eqGuard op t xo yo c d; binOp op t c d : Sem Value).run P w = .ok e w ∧ VR h μ v e := by
  unfold goBin at he
  split at he
  case h_3 => cases he
  case h_2 =>
    rename_i a b
    have finS : ∀ (e : Value) (v : AV), (∀ (h : Heap) (μ : LMap), VR h μ v e) → (∀ (t : TypeId) (w : World), (binOp op t (.string ⟨a.toArray⟩) (.string ⟨b.toArray⟩)).run P w = .ok e w) →
        ∀ (h : Heap) (μ : LMap) (t : TypeId) (xo yo : Operand) (c d : Value) (w : World), VR h μ (.str a) c → VR h μ (.str b) d →
        ∃ e, (do eqGuard op t xo yo c d; binOp op t c d : Sem Value).run P w = .ok e w ∧ VR h μ v e := by
      intro e v hv hrun h μ t xo yo c d w hc hd
      cases hc; cases hd
      refine ⟨e, ?_, hv h μ⟩
      have : (eqGuard op t xo yo (.string ⟨a.toArray⟩) (.string ⟨b.toArray⟩)).run P w = .ok () w := by
        unfold eqGuard
        split <;> rfl
      simp [Sem.run_bind, this, hrun]
    have hl : ∀ l : List UInt8, (ByteArray.mk l.toArray).toList = l := fun l => by rw [ByteArray.toList_eq]
    cases op <;> simp only [reduceCtorEq] at he
    case add =>
      obtain ⟨hb, h0⟩ := br_fail he
      simp only [Nat.ble_eq] at hb
      refine ⟨_, h0, finS (.string ⟨(a ++ b).toArray⟩) _ (fun h μ => .str _) fun t w => ?_⟩
      have e1 : (ByteArray.mk a.toArray).size = a.length := by simp [ByteArray.size]
      have e2 : (ByteArray.mk b.toArray).size = b.length := by simp [ByteArray.size]
      have e3 : (ByteArray.mk a.toArray ++ ByteArray.mk b.toArray) = ByteArray.mk (a ++ b).toArray := by
        apply ByteArray.ext
        simp [ByteArray.data_append]
      simp only [binOp, Op.stringOp, e1, e2, e3]
      have e4 : IntKind.i64.max = 9223372036854775807 := by decide
      rw [e4, if_neg (by omega)]
      rfl
    case eql =>
      refine ⟨_, he, finS (.bool (a == b)) _ (fun h μ => .bool _) fun t w => ?_⟩
      simp only [binOp, Op.stringOp, hl]
      rfl
    case neq =>
      refine ⟨_, he, finS (.bool (a != b)) _ (fun h μ => .bool _) fun t w => ?_⟩
      simp only [binOp, Op.stringOp, hl]
      rfl
  rename_i k a k' b
  have fin : ∀ (n : Int) (kk : IntKind) (v : AV), (fits k a = true → fits k' b = true → fits kk n = true) → v = .int kk n → (∀ (t : TypeId) (w : World), (binOp op t (.int k a) (.int k' b)).run P w = .ok (.int kk n) w) →
      ∀ (h : Heap) (μ : LMap) (t : TypeId) (xo yo : Operand) (c d : Value) (w : World), VR h μ (.int k a) c → VR h μ (.int k' b) d →
      ∃ e, (do eqGuard op t xo yo c d; binOp op t c d : Sem Value).run P w = .ok e w ∧ VR h μ v e := by
    intro n kk v hf hv hrun h μ t xo yo c d w hc hd
    cases hc with | int _ _ q1 =>
    cases hd with | int _ _ q2 =>
    refine ⟨_, ?_, by rw [hv]; exact .int _ _ (hf q1 q2)⟩
    have : (eqGuard op t xo yo (.int k a) (.int k' b)).run P w = .ok () w := by
      unfold eqGuard
      split <;> rfl
    simp [Sem.run_bind, this, hrun]
  have finB : ∀ (q : Bool) (v : AV), v = .bool q → (∀ (t : TypeId) (w : World), (binOp op t (.int k a) (.int k' b)).run P w = .ok (.bool q) w) →
      ∀ (h : Heap) (μ : LMap) (t : TypeId) (xo yo : Operand) (c d : Value) (w : World), VR h μ (.int k a) c → VR h μ (.int k' b) d →
      ∃ e, (do eqGuard op t xo yo c d; binOp op t c d : Sem Value).run P w = .ok e w ∧ VR h μ v e := by
    intro q v hv hrun h μ t xo yo c d w hc hd
    cases hc; cases hd
    refine ⟨_, ?_, by rw [hv]; exact .bool _⟩
    have : (eqGuard op t xo yo (.int k a) (.int k' b)).run P w = .ok () w := by
      unfold eqGuard
      split <;> rfl
    simp [Sem.run_bind, this, hrun]
  cases op <;> simp only at he
  case shl =>
    obtain ⟨hb, h0⟩ := br_fail he
    simp only [Bool.and_eq_true, decide_eq_true_eq] at hb
    obtain ⟨h1, h2⟩ := toKind_spec h0
    refine ⟨_, h1, fin _ _ _ (fun _ _ => h2) rfl fun t w => ?_⟩
    have hm : min b.toNat k.bits = b.toNat := by rw [← kbits_eq]; omega
    simp [binOp, Op.shift, hm, shlI, Int.not_lt.2 hb.1]
  case shr =>
    obtain ⟨hb, h0⟩ := br_fail he
    simp only [Bool.and_eq_true, decide_eq_true_eq] at hb
    refine ⟨_, h0, fin _ _ _ (fun q _ => fits_shr q) rfl fun t w => ?_⟩
    have hm : min b.toNat k.bits = b.toNat := by rw [← kbits_eq]; omega
    simp [binOp, Op.shift, hm, shrI, Int.not_lt.2 hb.1]
  case add =>
    obtain ⟨hb, h0⟩ := br_fail he
    have hkk := keq_eq hb; subst hkk
    obtain ⟨h1, h2⟩ := toKind_spec h0
    exact ⟨_, h1, fin _ _ _ (fun _ _ => h2) rfl fun t w => by simp [binOp, Op.intArith]⟩
  case sub =>
    obtain ⟨hb, h0⟩ := br_fail he
    have hkk := keq_eq hb; subst hkk
    obtain ⟨h1, h2⟩ := toKind_spec h0
    exact ⟨_, h1, fin _ _ _ (fun _ _ => h2) rfl fun t w => by simp [binOp, Op.intArith]⟩
  case mul =>
    obtain ⟨hb, h0⟩ := br_fail he
    have hkk := keq_eq hb; subst hkk
    obtain ⟨h1, h2⟩ := toKind_spec h0
    exact ⟨_, h1, fin _ _ _ (fun _ _ => h2) rfl fun t w => by simp [binOp, Op.intArith]⟩
  case quo =>
    obtain ⟨hb, h0⟩ := br_fail he
    have hkk := keq_eq hb; subst hkk
    obtain ⟨hc, h3⟩ := br_fail h0
    obtain ⟨h1, h2⟩ := toKind_spec h3
    have hb0 : ¬ b = 0 := by simpa using hc
    exact ⟨_, h1, fin _ _ _ (fun _ _ => h2) rfl fun t w => by simp [binOp, Op.intDiv, hb0]⟩
  case rem =>
    obtain ⟨hb, h0⟩ := br_fail he
    have hkk := keq_eq hb; subst hkk
    obtain ⟨hc, h3⟩ := br_fail h0
    have hb0 : ¬ b = 0 := by simpa using hc
    exact ⟨_, h3, fin _ _ _ (fun q _ => fits_tmod q) rfl fun t w => by simp [binOp, Op.intDiv, hb0]⟩
  all_goals first
    | (obtain ⟨hb, h0⟩ := br_fail he
       have hkk := keq_eq hb; subst hkk
       exact ⟨_, h0, fin _ _ _ (fun _ _ => fits_and _ _ _ _) rfl fun t w => by simp [binOp, Op.intBits, bitI]⟩)
    | (obtain ⟨hb, h0⟩ := br_fail he
       have hkk := keq_eq hb; subst hkk
       exact ⟨_, h0, finB _ _ rfl fun t w => by simp [binOp, Op.intCmp]⟩)

theorem goUn_sound {op : UnOp} {x : AV} {K : AV → Option α} (he : goUn op x K = some r) :
    ∃ v, K v = some r ∧ ∀ (h : Heap) (μ : LMap) (c : Value) (w : World), VR h μ x c → ∃ e, (Op.unary op c).run P w = .ok e w ∧ VR h μ v e := by
  unfold goUn at he
  split at he
  · exact ⟨_, he, fun h μ c w hc => by cases hc; exact ⟨_, rfl, .bool _⟩⟩
  · rename_i k n
    obtain ⟨h1, h2⟩ := toKind_spec he
    refine ⟨_, h1, fun h μ c w hc => ?_⟩
    cases hc
    exact ⟨_, by simp [Op.unary, Op.intArith]; rfl, by simpa using VR.int k _ h2⟩
  · cases he

theorem goConvert_sound {src dst : TypeId} {x : AV} {K : AV → Option α} (he : goConvert P src dst x K = some r) :
    ∃ v, K v = some r ∧ ∀ (h : Heap) (μ : LMap) (c : Value) (w : World), VR h μ x c → ∃ e, (convert src dst c).run P w = .ok e w ∧ VR h μ v e := by
  unfold goConvert at he
  split at he
  · rename_i d k' k n hs hd
    have hrun : ∀ w, (convert src dst (.int k n)).run P w = .ok (.int k' (k'.wrap n)) w := fun w => by
      simp only [convert, Sem.run_bind, run_underlying hs, run_underlying hd, Result.andThen_ok]
      cases d <;> rfl
    rcases br_some he with ⟨hb, h0⟩ | ⟨_, h0⟩
    · refine ⟨_, h0, fun h μ c w hc => ?_⟩
      cases hc with | int _ _ q =>
      have := fits_wider hb q
      exact ⟨_, hrun w, by rw [wrap_fits this]; exact .int _ _ this⟩
    · obtain ⟨h1, h2⟩ := toKind_spec h0
      refine ⟨_, h1, fun h μ c w hc => ?_⟩
      cases hc
      exact ⟨_, hrun w, .int _ _ h2⟩
  · rename_i s hs hd
    refine ⟨_, he, fun h μ c w hc => ?_⟩
    cases hc
    exact ⟨_, by simp only [convert, Sem.run_bind, run_underlying hs, run_underlying hd, Result.andThen_ok]; rfl, .str _⟩
  · cases he
end
end Go.AM
