/-
  No cell of these rows narrows 'for every input' (looked for: loops, veiled, ifaces, maps, wideKeys, modest, calm, conditions, laid).
  DERIVED. THE GIVEN ROWS OF THIS SEAT. 7 by the template 'for every input the law returns true; each argument reads behind the call as it read before'; 0 by the template 'total and deterministic' (their statements: YtoginabccpjeoaaTotals.lean).
  GIVEN WITH THE SEED: the statements are not yours to turn. If you find one false, say at which input.
  Laid BY PROGRAM, IN A SANDBOX (cutbox-rows.mjs): the forced cells as the released guide's own fill.sh prints them over the translation 0060d892e1a3041a… (all of the seat's roots in one cut). By AI agents, Wed Nov 11 2026. No macro, syntax, notation, axiom, sorry.
-/
import Derived.Test.YtoginabccpjeoaaChecked
import GoSem.Claim
import GoSem.ClaimJoined
import GoSem.ClaimMapViews
import Derived.JoinedTies
import Derived.KernelRfl
namespace Go.Proofs.Ytoginabccpjeoaa
/- THE CELL 'sum', in the pinned program and in every row, IS THE sha256 OF THE DUMP (.gsa) THAT YtoginabccpjeoaaProg.lean LOADS. Nothing in Lean hashes anything: it is a label: what it is worth is what the hold of that sum in a sandbox is worth. -/
noncomputable def Try.pinned : Pinned := { name := "ytoginabccpjeoaa", sum := "0060d892e1a3041a1aaf84c83b0873c4a47371d8cc48f80730e5cfac26da9bfa", checked := Try.checked }
namespace Rows
def none {H : Type} : Left H := { results := [], args := [] }

/-- 'laws.FnExactComponentNumbers': WHATEVER THE INPUT: true; the input reads as it did. -/
def fnExactComponentNumbersSpec : ChangeSpec := { name := "fnExactComponentNumbers", fn := fun _ => fun
  | [d] => { results := [.lit (.bool true)], args := [d] }
  | _ => none }
def fnExactComponentNumbersRow : OpenClaim := { program := "ytoginabccpjeoaa", sum := "0060d892e1a3041a1aaf84c83b0873c4a47371d8cc48f80730e5cfac26da9bfa", func := "loop.example/g01228/laws.FnExactComponentNumbers", spec := "fnExactComponentNumbers", unfollowed := true, recurses := true, apart := false }
def FnExactComponentNumbersSaid : Prop := fnExactComponentNumbersRow.holds Try.pinned (OpenSpec.ofChange fnExactComponentNumbersSpec)

/-- ITS FALSE NEIGHBOUR: 'it returns false'. Refute it at one input. -/
def fnExactComponentNumbersWrong : ChangeSpec := { name := "fnExactComponentNumbers", fn := fun _ => fun
  | [d] => { results := [.lit (.bool false)], args := [d] }
  | _ => none }
def FnExactComponentNumbersWrongFalsely : Prop := fnExactComponentNumbersRow.holds Try.pinned (OpenSpec.ofChange fnExactComponentNumbersWrong)

/-- 'laws.FnComponents': WHATEVER THE INPUT: true; the input reads as it did. -/
def fnComponentsSpec : ChangeSpec := { name := "fnComponents", fn := fun _ => fun
  | [d] => { results := [.lit (.bool true)], args := [d] }
  | _ => none }
def fnComponentsRow : OpenClaim := { program := "ytoginabccpjeoaa", sum := "0060d892e1a3041a1aaf84c83b0873c4a47371d8cc48f80730e5cfac26da9bfa", func := "loop.example/g01228/laws.FnComponents", spec := "fnComponents", unfollowed := true, recurses := true, apart := false }
def FnComponentsSaid : Prop := fnComponentsRow.holds Try.pinned (OpenSpec.ofChange fnComponentsSpec)

/-- ITS FALSE NEIGHBOUR: 'it returns false'. Refute it at one input. -/
def fnComponentsWrong : ChangeSpec := { name := "fnComponents", fn := fun _ => fun
  | [d] => { results := [.lit (.bool false)], args := [d] }
  | _ => none }
def FnComponentsWrongFalsely : Prop := fnComponentsRow.holds Try.pinned (OpenSpec.ofChange fnComponentsWrong)

/-- 'laws.FnExchanges': WHATEVER THE INPUT: true; the input reads as it did. -/
def fnExchangesSpec : ChangeSpec := { name := "fnExchanges", fn := fun _ => fun
  | [d] => { results := [.lit (.bool true)], args := [d] }
  | _ => none }
def fnExchangesRow : OpenClaim := { program := "ytoginabccpjeoaa", sum := "0060d892e1a3041a1aaf84c83b0873c4a47371d8cc48f80730e5cfac26da9bfa", func := "loop.example/g01228/laws.FnExchanges", spec := "fnExchanges", unfollowed := true, recurses := true, apart := false }
def FnExchangesSaid : Prop := fnExchangesRow.holds Try.pinned (OpenSpec.ofChange fnExchangesSpec)

/-- ITS FALSE NEIGHBOUR: 'it returns false'. Refute it at one input. -/
def fnExchangesWrong : ChangeSpec := { name := "fnExchanges", fn := fun _ => fun
  | [d] => { results := [.lit (.bool false)], args := [d] }
  | _ => none }
def FnExchangesWrongFalsely : Prop := fnExchangesRow.holds Try.pinned (OpenSpec.ofChange fnExchangesWrong)

/-- 'laws.FnFronts': WHATEVER THE INPUT: true; the input reads as it did. -/
def fnFrontsSpec : ChangeSpec := { name := "fnFronts", fn := fun _ => fun
  | [d] => { results := [.lit (.bool true)], args := [d] }
  | _ => none }
def fnFrontsRow : OpenClaim := { program := "ytoginabccpjeoaa", sum := "0060d892e1a3041a1aaf84c83b0873c4a47371d8cc48f80730e5cfac26da9bfa", func := "loop.example/g01228/laws.FnFronts", spec := "fnFronts", unfollowed := true, recurses := true, apart := false }
def FnFrontsSaid : Prop := fnFrontsRow.holds Try.pinned (OpenSpec.ofChange fnFrontsSpec)

/-- ITS FALSE NEIGHBOUR: 'it returns false'. Refute it at one input. -/
def fnFrontsWrong : ChangeSpec := { name := "fnFronts", fn := fun _ => fun
  | [d] => { results := [.lit (.bool false)], args := [d] }
  | _ => none }
def FnFrontsWrongFalsely : Prop := fnFrontsRow.holds Try.pinned (OpenSpec.ofChange fnFrontsWrong)

/-- 'laws.FnCrossings': WHATEVER THE INPUT: true; the input reads as it did. -/
def fnCrossingsSpec : ChangeSpec := { name := "fnCrossings", fn := fun _ => fun
  | [d] => { results := [.lit (.bool true)], args := [d] }
  | _ => none }
def fnCrossingsRow : OpenClaim := { program := "ytoginabccpjeoaa", sum := "0060d892e1a3041a1aaf84c83b0873c4a47371d8cc48f80730e5cfac26da9bfa", func := "loop.example/g01228/laws.FnCrossings", spec := "fnCrossings", unfollowed := true, recurses := true, apart := false }
def FnCrossingsSaid : Prop := fnCrossingsRow.holds Try.pinned (OpenSpec.ofChange fnCrossingsSpec)

/-- ITS FALSE NEIGHBOUR: 'it returns false'. Refute it at one input. -/
def fnCrossingsWrong : ChangeSpec := { name := "fnCrossings", fn := fun _ => fun
  | [d] => { results := [.lit (.bool false)], args := [d] }
  | _ => none }
def FnCrossingsWrongFalsely : Prop := fnCrossingsRow.holds Try.pinned (OpenSpec.ofChange fnCrossingsWrong)

/-- 'laws.FnCorners': WHATEVER THE INPUT: true; the input reads as it did. -/
def fnCornersSpec : ChangeSpec := { name := "fnCorners", fn := fun _ => fun
  | [d] => { results := [.lit (.bool true)], args := [d] }
  | _ => none }
def fnCornersRow : OpenClaim := { program := "ytoginabccpjeoaa", sum := "0060d892e1a3041a1aaf84c83b0873c4a47371d8cc48f80730e5cfac26da9bfa", func := "loop.example/g01228/laws.FnCorners", spec := "fnCorners", unfollowed := true, recurses := true, apart := false }
def FnCornersSaid : Prop := fnCornersRow.holds Try.pinned (OpenSpec.ofChange fnCornersSpec)

/-- ITS FALSE NEIGHBOUR: 'it returns false'. Refute it at one input. -/
def fnCornersWrong : ChangeSpec := { name := "fnCorners", fn := fun _ => fun
  | [d] => { results := [.lit (.bool false)], args := [d] }
  | _ => none }
def FnCornersWrongFalsely : Prop := fnCornersRow.holds Try.pinned (OpenSpec.ofChange fnCornersWrong)

/-- 'laws.FnMoves': WHATEVER THE INPUT: true; the input reads as it did. -/
def fnMovesSpec : ChangeSpec := { name := "fnMoves", fn := fun _ => fun
  | [d] => { results := [.lit (.bool true)], args := [d] }
  | _ => none }
def fnMovesRow : OpenClaim := { program := "ytoginabccpjeoaa", sum := "0060d892e1a3041a1aaf84c83b0873c4a47371d8cc48f80730e5cfac26da9bfa", func := "loop.example/g01228/laws.FnMoves", spec := "fnMoves", unfollowed := true, recurses := true, apart := false }
def FnMovesSaid : Prop := fnMovesRow.holds Try.pinned (OpenSpec.ofChange fnMovesSpec)

/-- ITS FALSE NEIGHBOUR: 'it returns false'. Refute it at one input. -/
def fnMovesWrong : ChangeSpec := { name := "fnMoves", fn := fun _ => fun
  | [d] => { results := [.lit (.bool false)], args := [d] }
  | _ => none }
def FnMovesWrongFalsely : Prop := fnMovesRow.holds Try.pinned (OpenSpec.ofChange fnMovesWrong)

/- THE SECOND FORM. 'bulk': how many values and letters a reading holds, each counted each time it is reached (what is shared counts as often as it is met; a slice's spare places count too). A statement '..UptoSaid' is the law's where the arguments, and the package variables that the reading takes, are together of bulk at most 1048576: NARROWER than '..Said'. Prove '..Said' where nothing that the law and all that it calls make is longer than what came in: it says more and counts as full. Else prove '..UptoSaid'. A law counts once. -/
mutual
def uptoBulk {H : Type} : DataW H → Nat
  | .lit (.string bytes) => bytes.length + 1
  | .lit _ => 1
  | .nil => 1
  | .ptr d => uptoBulk d + 1
  | .slice elems spare => uptoBulkAll elems + uptoBulkAll spare + 1
  | .agg parts => uptoBulkAll parts + 1
  | .iface _ d => uptoBulk d + 1
  | .map entries => uptoBulkEntries entries + 1
  | .held _ => 1
def uptoBulkAll {H : Type} : List (DataW H) → Nat
  | [] => 0
  | d :: r => uptoBulk d + uptoBulkAll r
def uptoBulkEntries {H : Type} : List (Lit × DataW H) → Nat
  | [] => 0
  | x :: r => uptoBulkEntry x + uptoBulkEntries r
def uptoBulkEntry {H : Type} : Lit × DataW H → Nat
  | (.string bytes, d) => bytes.length + uptoBulk d + 1
  | (_, d) => uptoBulk d + 1
 end
def uptoSmall : (H : Type) → List (DataW H) → Bool := fun _ ds => decide (uptoBulkAll ds ≤ 1048576)
def OpenSpec.upto (s : _root_.Go.ChangeSpec) : _root_.Go.OpenSpec := { _root_.Go.OpenSpec.ofChange s with cond := some uptoSmall }

/-- 'laws.FnExactComponentNumbers', WHERE WHAT IT READS IS OF BULK AT MOST 1048576: true; the input reads as it did. -/
def fnExactComponentNumbersUptoRow : OpenClaim := { program := "ytoginabccpjeoaa", sum := "0060d892e1a3041a1aaf84c83b0873c4a47371d8cc48f80730e5cfac26da9bfa", func := "loop.example/g01228/laws.FnExactComponentNumbers", spec := "fnExactComponentNumbers", unfollowed := true, recurses := true, apart := false, narrowed := true }
def FnExactComponentNumbersUptoSaid : Prop := fnExactComponentNumbersUptoRow.holds Try.pinned (OpenSpec.upto fnExactComponentNumbersSpec)

/-- 'laws.FnComponents', WHERE WHAT IT READS IS OF BULK AT MOST 1048576: true; the input reads as it did. -/
def fnComponentsUptoRow : OpenClaim := { program := "ytoginabccpjeoaa", sum := "0060d892e1a3041a1aaf84c83b0873c4a47371d8cc48f80730e5cfac26da9bfa", func := "loop.example/g01228/laws.FnComponents", spec := "fnComponents", unfollowed := true, recurses := true, apart := false, narrowed := true }
def FnComponentsUptoSaid : Prop := fnComponentsUptoRow.holds Try.pinned (OpenSpec.upto fnComponentsSpec)

/-- 'laws.FnExchanges', WHERE WHAT IT READS IS OF BULK AT MOST 1048576: true; the input reads as it did. -/
def fnExchangesUptoRow : OpenClaim := { program := "ytoginabccpjeoaa", sum := "0060d892e1a3041a1aaf84c83b0873c4a47371d8cc48f80730e5cfac26da9bfa", func := "loop.example/g01228/laws.FnExchanges", spec := "fnExchanges", unfollowed := true, recurses := true, apart := false, narrowed := true }
def FnExchangesUptoSaid : Prop := fnExchangesUptoRow.holds Try.pinned (OpenSpec.upto fnExchangesSpec)

/-- 'laws.FnFronts', WHERE WHAT IT READS IS OF BULK AT MOST 1048576: true; the input reads as it did. -/
def fnFrontsUptoRow : OpenClaim := { program := "ytoginabccpjeoaa", sum := "0060d892e1a3041a1aaf84c83b0873c4a47371d8cc48f80730e5cfac26da9bfa", func := "loop.example/g01228/laws.FnFronts", spec := "fnFronts", unfollowed := true, recurses := true, apart := false, narrowed := true }
def FnFrontsUptoSaid : Prop := fnFrontsUptoRow.holds Try.pinned (OpenSpec.upto fnFrontsSpec)

/-- 'laws.FnCrossings', WHERE WHAT IT READS IS OF BULK AT MOST 1048576: true; the input reads as it did. -/
def fnCrossingsUptoRow : OpenClaim := { program := "ytoginabccpjeoaa", sum := "0060d892e1a3041a1aaf84c83b0873c4a47371d8cc48f80730e5cfac26da9bfa", func := "loop.example/g01228/laws.FnCrossings", spec := "fnCrossings", unfollowed := true, recurses := true, apart := false, narrowed := true }
def FnCrossingsUptoSaid : Prop := fnCrossingsUptoRow.holds Try.pinned (OpenSpec.upto fnCrossingsSpec)

/-- 'laws.FnCorners', WHERE WHAT IT READS IS OF BULK AT MOST 1048576: true; the input reads as it did. -/
def fnCornersUptoRow : OpenClaim := { program := "ytoginabccpjeoaa", sum := "0060d892e1a3041a1aaf84c83b0873c4a47371d8cc48f80730e5cfac26da9bfa", func := "loop.example/g01228/laws.FnCorners", spec := "fnCorners", unfollowed := true, recurses := true, apart := false, narrowed := true }
def FnCornersUptoSaid : Prop := fnCornersUptoRow.holds Try.pinned (OpenSpec.upto fnCornersSpec)

/-- 'laws.FnMoves', WHERE WHAT IT READS IS OF BULK AT MOST 1048576: true; the input reads as it did. -/
def fnMovesUptoRow : OpenClaim := { program := "ytoginabccpjeoaa", sum := "0060d892e1a3041a1aaf84c83b0873c4a47371d8cc48f80730e5cfac26da9bfa", func := "loop.example/g01228/laws.FnMoves", spec := "fnMoves", unfollowed := true, recurses := true, apart := false, narrowed := true }
def FnMovesUptoSaid : Prop := fnMovesUptoRow.holds Try.pinned (OpenSpec.upto fnMovesSpec)

end Rows
end Go.Proofs.Ytoginabccpjeoaa
