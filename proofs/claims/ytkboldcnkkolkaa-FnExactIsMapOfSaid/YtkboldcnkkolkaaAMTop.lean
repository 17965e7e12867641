/- A part of a proof about the given program: an abstract machine, what the given functions come to, and plain laws. -/
import Derived.Test.YtkboldcnkkolkaaAMEnv
import Derived.ProofKit
namespace Go.AM
open Go.ChangeShapes Go.WideShapes Go.RowKit
section
variable {P : Program}

theorem no_has {b : Key} (h : has [] b) : False := by have := has_lt h; simp at this
theorem no_blk {b : Key} {ss : Blk} (h : blk? [] b = some ss) : False := no_has ⟨_, h⟩
/-- The end of a law that takes its arguments by value. -/
theorem law_calls (hm : P.follows .mixedOrders = true) (hnames : NamesOk P) {E : Env (AV × Heap)} (hE : EnvOk P E) {d : Nat} {f : FuncId} {args : List AV} {b : Bool} {h' : Heap}
    (hk : callK P E d f 0 args [] (fun v h => some (v, h)) = some (.bool b, h')) {cs : Array Value} (hlen : args.length = cs.size) (hargs : ∀ i, VR [] (fun _ => .absent) (args.getD i .undef) (cs.getD i Go.undef)) (W : World) :
    Calls P f cs W fun e W' => e = .returned (.bool b) ∧ Below W.heap.size W W' ∧ ∀ a, W'.frozen? a = W.frozen? a := by
  obtain ⟨v, h2, h3, _, hs⟩ := callK_sound hm hnames hE d f 0 args [] _ _ hk
  simp only [Option.some.injEq, Prod.mk.injEq] at h3
  obtain ⟨rfl, rfl⟩ := h3
  refine (hs (fun _ => .absent) W cs hlen hargs ⟨fun b ss hb => (no_blk hb).elim, fun b ss k base room hb => (no_blk hb).elim, fun b b' k base room base' room' _ h => (no_has h).elim, fun b ss hb => (no_blk hb).elim, Nat.zero_le _⟩).mono ?_
  rintro e W' ⟨c, rfl, μ', v1, _, v3⟩
  cases v1
  refine ⟨rfl, ⟨v3.os, v3.tape, v3.output, v3.size, fun k hk => v3.frame k hk fun b base room _ hb => (no_has hb).elim⟩, v3.froz⟩

theorem cell_int {w : World} {r : Go.Reach} {base : Nat} {u : TypeId} {c : Value} {k : IntKind} (hu : P.underlying u = some (.int k)) (hc : Cell.okWide P w r base u c) : ∃ n, c = .int k n ∧ fits k n = true := by
  unfold Cell.okWide at hc
  rw [hu] at hc
  cases c <;> simp only [Cell.ok, hu] at hc
  rename_i k' n
  obtain ⟨rfl, h1, h2⟩ := hc
  refine ⟨n, rfl, ?_⟩
  rw [fits_iff]
  cases k' <;> exact ⟨h1, h2⟩

theorem cell_bool {w : World} {r : Go.Reach} {base : Nat} {u : TypeId} {c : Value} (hu : P.underlying u = some .bool) (hc : Cell.okWide P w r base u c) : ∃ b, c = .bool b := by
  unfold Cell.okWide at hc
  rw [hu] at hc
  cases c <;> simp only [Cell.ok, hu] at hc
  exact ⟨_, rfl⟩

theorem okWide_cells {w : World} {r : Go.Reach} {base : Nat} {t : TypeId} {d : TypeDesc} {v : Value} {ts : List TypeId} (hu : P.underlying t = some d) (hd : isAggD d = true) (hts : P.cellTypes P.depth t = some ts) (hn : P.cellsOf t = ts.length)
    (hv : Value.okWide P w r base t v) : ∃ cs, v = .agg cs ∧ cs.size = ts.length ∧ ∀ (i : Nat) (u : TypeId), ts[i]? = some u → ∃ c : Value, cs[i]? = some c ∧ Cell.okWide P w r base u c := by
  unfold Value.okWide at hv
  rw [hu] at hv
  have hv : ∃ cs, v = .agg cs ∧ cs.size = P.cellsOf t ∧ Row.okWide P w r base t cs := by
    cases d <;> first | exact hv | cases hd
  obtain ⟨cs, rfl, h1, ts', h2, _, h4⟩ := hv
  rw [hts] at h2
  cases h2
  refine ⟨cs, rfl, by omega, fun i u hi => ?_⟩
  have hlt := (List.getElem?_eq_some_iff.1 hi).1
  have hc : cs[i]? = some cs[i] := by simp [show i < cs.size by omega]
  obtain ⟨u', h5, h6⟩ := h4 i _ hc
  rw [Nat.mod_eq_of_lt hlt, hi] at h5
  cases h5
  exact ⟨_, hc, h6⟩

/-- The number in a cell. -/
def numAt (cs : Array Value) (i : Nat) : Int := match cs[i]? with
  | some (.int _ n) => n
  | _ => 0
end
end Go.AM
