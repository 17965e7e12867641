/-
  No cell of these rows narrows 'for every input' (looked for: loops, veiled, ifaces, maps, wideKeys, modest, calm, conditions, laid).
  DERIVED. THE GIVEN ROWS OF THIS SEAT. 12 by the template 'for every input the law returns true; each argument reads behind the call as it read before'; 0 by the template 'total and deterministic' (their statements: YtkboldcnkkolkaaTotals.lean).
  GIVEN WITH THE SEED: the statements are not yours to turn. If you find one false, say at which input.
  Laid BY PROGRAM, IN A SANDBOX (cutbox-rows.mjs): the forced cells as the released guide's own fill.sh prints them over the translation 623f068dee9c7562… (all of the seat's roots in one cut). By AI agents, Wed Nov 11 2026. No macro, syntax, notation, axiom, sorry.
-/
import Derived.Test.YtkboldcnkkolkaaChecked
import GoSem.Claim
import GoSem.ClaimJoined
import GoSem.ClaimMapViews
import Derived.JoinedTies
import Derived.KernelRfl
namespace Go.Proofs.Ytkboldcnkkolkaa
/- THE CELL 'sum', in the pinned program and in every row, IS THE sha256 OF THE DUMP (.gsa) THAT YtkboldcnkkolkaaProg.lean LOADS. Nothing in Lean hashes anything: it is a label: what it is worth is what the hold of that sum in a sandbox is worth. -/
noncomputable def Try.pinned : Pinned := { name := "ytkboldcnkkolkaa", sum := "623f068dee9c7562fd8c086a34f1e5822070b6d578b0aa21294507b4fe0cf78c", checked := Try.checked }
namespace Rows
def none {H : Type} : Left H := { results := [], args := [] }

/-- 'laws.FnExactIsMapOf': WHATEVER THE INPUT: true; the input reads as it did. -/
def fnExactIsMapOfSpec : ChangeSpec := { name := "fnExactIsMapOf", fn := fun _ => fun
  | [d1, d2, d3] => { results := [.lit (.bool true)], args := [d1, d2, d3] }
  | _ => none }
def fnExactIsMapOfRow : OpenClaim := { program := "ytkboldcnkkolkaa", sum := "623f068dee9c7562fd8c086a34f1e5822070b6d578b0aa21294507b4fe0cf78c", func := "loop.example/g01228/laws.FnExactIsMapOf", spec := "fnExactIsMapOf", unfollowed := true, recurses := true, apart := false }
def FnExactIsMapOfSaid : Prop := fnExactIsMapOfRow.holds Try.pinned (OpenSpec.ofChange fnExactIsMapOfSpec)

/-- ITS FALSE NEIGHBOUR: 'it returns false'. Refute it at one input. -/
def fnExactIsMapOfWrong : ChangeSpec := { name := "fnExactIsMapOf", fn := fun _ => fun
  | [d1, d2, d3] => { results := [.lit (.bool false)], args := [d1, d2, d3] }
  | _ => none }
def FnExactIsMapOfWrongFalsely : Prop := fnExactIsMapOfRow.holds Try.pinned (OpenSpec.ofChange fnExactIsMapOfWrong)

/-- 'laws.FnExactAbelianTable': WHATEVER THE INPUT: true; the input reads as it did. -/
def fnExactAbelianTableSpec : ChangeSpec := { name := "fnExactAbelianTable", fn := fun _ => fun
  | [d] => { results := [.lit (.bool true)], args := [d] }
  | _ => none }
def fnExactAbelianTableRow : OpenClaim := { program := "ytkboldcnkkolkaa", sum := "623f068dee9c7562fd8c086a34f1e5822070b6d578b0aa21294507b4fe0cf78c", func := "loop.example/g01228/laws.FnExactAbelianTable", spec := "fnExactAbelianTable", unfollowed := true, recurses := true, apart := false }
def FnExactAbelianTableSaid : Prop := fnExactAbelianTableRow.holds Try.pinned (OpenSpec.ofChange fnExactAbelianTableSpec)

/-- ITS FALSE NEIGHBOUR: 'it returns false'. Refute it at one input. -/
def fnExactAbelianTableWrong : ChangeSpec := { name := "fnExactAbelianTable", fn := fun _ => fun
  | [d] => { results := [.lit (.bool false)], args := [d] }
  | _ => none }
def FnExactAbelianTableWrongFalsely : Prop := fnExactAbelianTableRow.holds Try.pinned (OpenSpec.ofChange fnExactAbelianTableWrong)

/-- 'laws.FnExactCountColourings': WHATEVER THE INPUT: true; the input reads as it did. -/
def fnExactCountColouringsSpec : ChangeSpec := { name := "fnExactCountColourings", fn := fun _ => fun
  | [d1, d2] => { results := [.lit (.bool true)], args := [d1, d2] }
  | _ => none }
def fnExactCountColouringsRow : OpenClaim := { program := "ytkboldcnkkolkaa", sum := "623f068dee9c7562fd8c086a34f1e5822070b6d578b0aa21294507b4fe0cf78c", func := "loop.example/g01228/laws.FnExactCountColourings", spec := "fnExactCountColourings", unfollowed := true, recurses := true, apart := false }
def FnExactCountColouringsSaid : Prop := fnExactCountColouringsRow.holds Try.pinned (OpenSpec.ofChange fnExactCountColouringsSpec)

/-- ITS FALSE NEIGHBOUR: 'it returns false'. Refute it at one input. -/
def fnExactCountColouringsWrong : ChangeSpec := { name := "fnExactCountColourings", fn := fun _ => fun
  | [d1, d2] => { results := [.lit (.bool false)], args := [d1, d2] }
  | _ => none }
def FnExactCountColouringsWrongFalsely : Prop := fnExactCountColouringsRow.holds Try.pinned (OpenSpec.ofChange fnExactCountColouringsWrong)

/-- 'laws.FnExactCuspWords': WHATEVER THE INPUT: true; the input reads as it did. -/
def fnExactCuspWordsSpec : ChangeSpec := { name := "fnExactCuspWords", fn := fun _ => fun
  | [d] => { results := [.lit (.bool true)], args := [d] }
  | _ => none }
def fnExactCuspWordsRow : OpenClaim := { program := "ytkboldcnkkolkaa", sum := "623f068dee9c7562fd8c086a34f1e5822070b6d578b0aa21294507b4fe0cf78c", func := "loop.example/g01228/laws.FnExactCuspWords", spec := "fnExactCuspWords", unfollowed := true, recurses := true, apart := false }
def FnExactCuspWordsSaid : Prop := fnExactCuspWordsRow.holds Try.pinned (OpenSpec.ofChange fnExactCuspWordsSpec)

/-- ITS FALSE NEIGHBOUR: 'it returns false'. Refute it at one input. -/
def fnExactCuspWordsWrong : ChangeSpec := { name := "fnExactCuspWords", fn := fun _ => fun
  | [d] => { results := [.lit (.bool false)], args := [d] }
  | _ => none }
def FnExactCuspWordsWrongFalsely : Prop := fnExactCuspWordsRow.holds Try.pinned (OpenSpec.ofChange fnExactCuspWordsWrong)

/-- 'laws.FnExactRotationOf': WHATEVER THE INPUT: true; the input reads as it did. -/
def fnExactRotationOfSpec : ChangeSpec := { name := "fnExactRotationOf", fn := fun _ => fun
  | [d] => { results := [.lit (.bool true)], args := [d] }
  | _ => none }
def fnExactRotationOfRow : OpenClaim := { program := "ytkboldcnkkolkaa", sum := "623f068dee9c7562fd8c086a34f1e5822070b6d578b0aa21294507b4fe0cf78c", func := "loop.example/g01228/laws.FnExactRotationOf", spec := "fnExactRotationOf", unfollowed := true, recurses := true, apart := false }
def FnExactRotationOfSaid : Prop := fnExactRotationOfRow.holds Try.pinned (OpenSpec.ofChange fnExactRotationOfSpec)

/-- ITS FALSE NEIGHBOUR: 'it returns false'. Refute it at one input. -/
def fnExactRotationOfWrong : ChangeSpec := { name := "fnExactRotationOf", fn := fun _ => fun
  | [d] => { results := [.lit (.bool false)], args := [d] }
  | _ => none }
def FnExactRotationOfWrongFalsely : Prop := fnExactRotationOfRow.holds Try.pinned (OpenSpec.ofChange fnExactRotationOfWrong)

/-- 'laws.FnExactThurstonBennequin': WHATEVER THE INPUT: true; the input reads as it did. -/
def fnExactThurstonBennequinSpec : ChangeSpec := { name := "fnExactThurstonBennequin", fn := fun _ => fun
  | [d] => { results := [.lit (.bool true)], args := [d] }
  | _ => none }
def fnExactThurstonBennequinRow : OpenClaim := { program := "ytkboldcnkkolkaa", sum := "623f068dee9c7562fd8c086a34f1e5822070b6d578b0aa21294507b4fe0cf78c", func := "loop.example/g01228/laws.FnExactThurstonBennequin", spec := "fnExactThurstonBennequin", unfollowed := true, recurses := true, apart := false }
def FnExactThurstonBennequinSaid : Prop := fnExactThurstonBennequinRow.holds Try.pinned (OpenSpec.ofChange fnExactThurstonBennequinSpec)

/-- ITS FALSE NEIGHBOUR: 'it returns false'. Refute it at one input. -/
def fnExactThurstonBennequinWrong : ChangeSpec := { name := "fnExactThurstonBennequin", fn := fun _ => fun
  | [d] => { results := [.lit (.bool false)], args := [d] }
  | _ => none }
def FnExactThurstonBennequinWrongFalsely : Prop := fnExactThurstonBennequinRow.holds Try.pinned (OpenSpec.ofChange fnExactThurstonBennequinWrong)

/-- 'laws.FnExactSelfLinkings': WHATEVER THE INPUT: true; the input reads as it did. -/
def fnExactSelfLinkingsSpec : ChangeSpec := { name := "fnExactSelfLinkings", fn := fun _ => fun
  | [d] => { results := [.lit (.bool true)], args := [d] }
  | _ => none }
def fnExactSelfLinkingsRow : OpenClaim := { program := "ytkboldcnkkolkaa", sum := "623f068dee9c7562fd8c086a34f1e5822070b6d578b0aa21294507b4fe0cf78c", func := "loop.example/g01228/laws.FnExactSelfLinkings", spec := "fnExactSelfLinkings", unfollowed := true, recurses := true, apart := false }
def FnExactSelfLinkingsSaid : Prop := fnExactSelfLinkingsRow.holds Try.pinned (OpenSpec.ofChange fnExactSelfLinkingsSpec)

/-- ITS FALSE NEIGHBOUR: 'it returns false'. Refute it at one input. -/
def fnExactSelfLinkingsWrong : ChangeSpec := { name := "fnExactSelfLinkings", fn := fun _ => fun
  | [d] => { results := [.lit (.bool false)], args := [d] }
  | _ => none }
def FnExactSelfLinkingsWrongFalsely : Prop := fnExactSelfLinkingsRow.holds Try.pinned (OpenSpec.ofChange fnExactSelfLinkingsWrong)

/-- 'laws.FnExactTurnNumbers': WHATEVER THE INPUT: true; the input reads as it did. -/
def fnExactTurnNumbersSpec : ChangeSpec := { name := "fnExactTurnNumbers", fn := fun _ => fun
  | [d] => { results := [.lit (.bool true)], args := [d] }
  | _ => none }
def fnExactTurnNumbersRow : OpenClaim := { program := "ytkboldcnkkolkaa", sum := "623f068dee9c7562fd8c086a34f1e5822070b6d578b0aa21294507b4fe0cf78c", func := "loop.example/g01228/laws.FnExactTurnNumbers", spec := "fnExactTurnNumbers", unfollowed := true, recurses := true, apart := false }
def FnExactTurnNumbersSaid : Prop := fnExactTurnNumbersRow.holds Try.pinned (OpenSpec.ofChange fnExactTurnNumbersSpec)

/-- ITS FALSE NEIGHBOUR: 'it returns false'. Refute it at one input. -/
def fnExactTurnNumbersWrong : ChangeSpec := { name := "fnExactTurnNumbers", fn := fun _ => fun
  | [d] => { results := [.lit (.bool false)], args := [d] }
  | _ => none }
def FnExactTurnNumbersWrongFalsely : Prop := fnExactTurnNumbersRow.holds Try.pinned (OpenSpec.ofChange fnExactTurnNumbersWrong)

/-- 'laws.FnExactCountMaps': WHATEVER THE INPUT: true; the input reads as it did. -/
def fnExactCountMapsSpec : ChangeSpec := { name := "fnExactCountMaps", fn := fun _ => fun
  | [d1, d2] => { results := [.lit (.bool true)], args := [d1, d2] }
  | _ => none }
def fnExactCountMapsRow : OpenClaim := { program := "ytkboldcnkkolkaa", sum := "623f068dee9c7562fd8c086a34f1e5822070b6d578b0aa21294507b4fe0cf78c", func := "loop.example/g01228/laws.FnExactCountMaps", spec := "fnExactCountMaps", unfollowed := true, recurses := true, apart := false }
def FnExactCountMapsSaid : Prop := fnExactCountMapsRow.holds Try.pinned (OpenSpec.ofChange fnExactCountMapsSpec)

/-- ITS FALSE NEIGHBOUR: 'it returns false'. Refute it at one input. -/
def fnExactCountMapsWrong : ChangeSpec := { name := "fnExactCountMaps", fn := fun _ => fun
  | [d1, d2] => { results := [.lit (.bool false)], args := [d1, d2] }
  | _ => none }
def FnExactCountMapsWrongFalsely : Prop := fnExactCountMapsRow.holds Try.pinned (OpenSpec.ofChange fnExactCountMapsWrong)

/-- 'laws.FnExactColouringBasis': WHATEVER THE INPUT: true; the input reads as it did. -/
def fnExactColouringBasisSpec : ChangeSpec := { name := "fnExactColouringBasis", fn := fun _ => fun
  | [d1, d2] => { results := [.lit (.bool true)], args := [d1, d2] }
  | _ => none }
def fnExactColouringBasisRow : OpenClaim := { program := "ytkboldcnkkolkaa", sum := "623f068dee9c7562fd8c086a34f1e5822070b6d578b0aa21294507b4fe0cf78c", func := "loop.example/g01228/laws.FnExactColouringBasis", spec := "fnExactColouringBasis", unfollowed := true, recurses := true, apart := false }
def FnExactColouringBasisSaid : Prop := fnExactColouringBasisRow.holds Try.pinned (OpenSpec.ofChange fnExactColouringBasisSpec)

/-- ITS FALSE NEIGHBOUR: 'it returns false'. Refute it at one input. -/
def fnExactColouringBasisWrong : ChangeSpec := { name := "fnExactColouringBasis", fn := fun _ => fun
  | [d1, d2] => { results := [.lit (.bool false)], args := [d1, d2] }
  | _ => none }
def FnExactColouringBasisWrongFalsely : Prop := fnExactColouringBasisRow.holds Try.pinned (OpenSpec.ofChange fnExactColouringBasisWrong)

/-- 'laws.FnExactComponentNumbers': WHATEVER THE INPUT: true; the input reads as it did. -/
def fnExactComponentNumbersSpec : ChangeSpec := { name := "fnExactComponentNumbers", fn := fun _ => fun
  | [d] => { results := [.lit (.bool true)], args := [d] }
  | _ => none }
def fnExactComponentNumbersRow : OpenClaim := { program := "ytkboldcnkkolkaa", sum := "623f068dee9c7562fd8c086a34f1e5822070b6d578b0aa21294507b4fe0cf78c", func := "loop.example/g01228/laws.FnExactComponentNumbers", spec := "fnExactComponentNumbers", unfollowed := true, recurses := true, apart := false }
def FnExactComponentNumbersSaid : Prop := fnExactComponentNumbersRow.holds Try.pinned (OpenSpec.ofChange fnExactComponentNumbersSpec)

/-- ITS FALSE NEIGHBOUR: 'it returns false'. Refute it at one input. -/
def fnExactComponentNumbersWrong : ChangeSpec := { name := "fnExactComponentNumbers", fn := fun _ => fun
  | [d] => { results := [.lit (.bool false)], args := [d] }
  | _ => none }
def FnExactComponentNumbersWrongFalsely : Prop := fnExactComponentNumbersRow.holds Try.pinned (OpenSpec.ofChange fnExactComponentNumbersWrong)

/-- 'laws.FnExactCountTransitive': WHATEVER THE INPUT: true; the input reads as it did. -/
def fnExactCountTransitiveSpec : ChangeSpec := { name := "fnExactCountTransitive", fn := fun _ => fun
  | [d1, d2] => { results := [.lit (.bool true)], args := [d1, d2] }
  | _ => none }
def fnExactCountTransitiveRow : OpenClaim := { program := "ytkboldcnkkolkaa", sum := "623f068dee9c7562fd8c086a34f1e5822070b6d578b0aa21294507b4fe0cf78c", func := "loop.example/g01228/laws.FnExactCountTransitive", spec := "fnExactCountTransitive", unfollowed := true, recurses := true, apart := false }
def FnExactCountTransitiveSaid : Prop := fnExactCountTransitiveRow.holds Try.pinned (OpenSpec.ofChange fnExactCountTransitiveSpec)

/-- ITS FALSE NEIGHBOUR: 'it returns false'. Refute it at one input. -/
def fnExactCountTransitiveWrong : ChangeSpec := { name := "fnExactCountTransitive", fn := fun _ => fun
  | [d1, d2] => { results := [.lit (.bool false)], args := [d1, d2] }
  | _ => none }
def FnExactCountTransitiveWrongFalsely : Prop := fnExactCountTransitiveRow.holds Try.pinned (OpenSpec.ofChange fnExactCountTransitiveWrong)

/- THE SECOND FORM. 'bulk': how many values and letters a reading holds, each counted each time it is reached (what is shared counts as often as it is met; a slice's spare places count too). A statement '..UptoSaid' is the law's where the arguments, and the package variables that the reading takes, are together of bulk at most 1048576: NARROWER than '..Said'. Prove '..Said' where nothing that the law and all that it calls make is longer than what came in: it says more and counts as full. Else prove '..UptoSaid'. A law counts once. -/
mutual
def uptoBulk {H : Type} : DataW H → Nat
  | .lit (.string bytes) => bytes.length + 1
  | .lit _ => 1
  | .nil => 1
  | .ptr d => uptoBulk d + 1
  | .slice elems spare => uptoBulkAll elems + uptoBulkAll spare + 1
  | .agg parts => uptoBulkAll parts + 1
  | .iface _ d => uptoBulk d + 1
  | .map entries => uptoBulkEntries entries + 1
  | .held _ => 1
def uptoBulkAll {H : Type} : List (DataW H) → Nat
  | [] => 0
  | d :: r => uptoBulk d + uptoBulkAll r
def uptoBulkEntries {H : Type} : List (Lit × DataW H) → Nat
  | [] => 0
  | x :: r => uptoBulkEntry x + uptoBulkEntries r
def uptoBulkEntry {H : Type} : Lit × DataW H → Nat
  | (.string bytes, d) => bytes.length + uptoBulk d + 1
  | (_, d) => uptoBulk d + 1
 end
def uptoSmall : (H : Type) → List (DataW H) → Bool := fun _ ds => decide (uptoBulkAll ds ≤ 1048576)
def OpenSpec.upto (s : _root_.Go.ChangeSpec) : _root_.Go.OpenSpec := { _root_.Go.OpenSpec.ofChange s with cond := some uptoSmall }

/-- 'laws.FnExactIsMapOf', WHERE WHAT IT READS IS OF BULK AT MOST 1048576: true; the input reads as it did. -/
def fnExactIsMapOfUptoRow : OpenClaim := { program := "ytkboldcnkkolkaa", sum := "623f068dee9c7562fd8c086a34f1e5822070b6d578b0aa21294507b4fe0cf78c", func := "loop.example/g01228/laws.FnExactIsMapOf", spec := "fnExactIsMapOf", unfollowed := true, recurses := true, apart := false, narrowed := true }
def FnExactIsMapOfUptoSaid : Prop := fnExactIsMapOfUptoRow.holds Try.pinned (OpenSpec.upto fnExactIsMapOfSpec)

/-- 'laws.FnExactAbelianTable', WHERE WHAT IT READS IS OF BULK AT MOST 1048576: true; the input reads as it did. -/
def fnExactAbelianTableUptoRow : OpenClaim := { program := "ytkboldcnkkolkaa", sum := "623f068dee9c7562fd8c086a34f1e5822070b6d578b0aa21294507b4fe0cf78c", func := "loop.example/g01228/laws.FnExactAbelianTable", spec := "fnExactAbelianTable", unfollowed := true, recurses := true, apart := false, narrowed := true }
def FnExactAbelianTableUptoSaid : Prop := fnExactAbelianTableUptoRow.holds Try.pinned (OpenSpec.upto fnExactAbelianTableSpec)

/-- 'laws.FnExactCountColourings', WHERE WHAT IT READS IS OF BULK AT MOST 1048576: true; the input reads as it did. -/
def fnExactCountColouringsUptoRow : OpenClaim := { program := "ytkboldcnkkolkaa", sum := "623f068dee9c7562fd8c086a34f1e5822070b6d578b0aa21294507b4fe0cf78c", func := "loop.example/g01228/laws.FnExactCountColourings", spec := "fnExactCountColourings", unfollowed := true, recurses := true, apart := false, narrowed := true }
def FnExactCountColouringsUptoSaid : Prop := fnExactCountColouringsUptoRow.holds Try.pinned (OpenSpec.upto fnExactCountColouringsSpec)

/-- 'laws.FnExactCuspWords', WHERE WHAT IT READS IS OF BULK AT MOST 1048576: true; the input reads as it did. -/
def fnExactCuspWordsUptoRow : OpenClaim := { program := "ytkboldcnkkolkaa", sum := "623f068dee9c7562fd8c086a34f1e5822070b6d578b0aa21294507b4fe0cf78c", func := "loop.example/g01228/laws.FnExactCuspWords", spec := "fnExactCuspWords", unfollowed := true, recurses := true, apart := false, narrowed := true }
def FnExactCuspWordsUptoSaid : Prop := fnExactCuspWordsUptoRow.holds Try.pinned (OpenSpec.upto fnExactCuspWordsSpec)

/-- 'laws.FnExactRotationOf', WHERE WHAT IT READS IS OF BULK AT MOST 1048576: true; the input reads as it did. -/
def fnExactRotationOfUptoRow : OpenClaim := { program := "ytkboldcnkkolkaa", sum := "623f068dee9c7562fd8c086a34f1e5822070b6d578b0aa21294507b4fe0cf78c", func := "loop.example/g01228/laws.FnExactRotationOf", spec := "fnExactRotationOf", unfollowed := true, recurses := true, apart := false, narrowed := true }
def FnExactRotationOfUptoSaid : Prop := fnExactRotationOfUptoRow.holds Try.pinned (OpenSpec.upto fnExactRotationOfSpec)

/-- 'laws.FnExactThurstonBennequin', WHERE WHAT IT READS IS OF BULK AT MOST 1048576: true; the input reads as it did. -/
def fnExactThurstonBennequinUptoRow : OpenClaim := { program := "ytkboldcnkkolkaa", sum := "623f068dee9c7562fd8c086a34f1e5822070b6d578b0aa21294507b4fe0cf78c", func := "loop.example/g01228/laws.FnExactThurstonBennequin", spec := "fnExactThurstonBennequin", unfollowed := true, recurses := true, apart := false, narrowed := true }
def FnExactThurstonBennequinUptoSaid : Prop := fnExactThurstonBennequinUptoRow.holds Try.pinned (OpenSpec.upto fnExactThurstonBennequinSpec)

/-- 'laws.FnExactSelfLinkings', WHERE WHAT IT READS IS OF BULK AT MOST 1048576: true; the input reads as it did. -/
def fnExactSelfLinkingsUptoRow : OpenClaim := { program := "ytkboldcnkkolkaa", sum := "623f068dee9c7562fd8c086a34f1e5822070b6d578b0aa21294507b4fe0cf78c", func := "loop.example/g01228/laws.FnExactSelfLinkings", spec := "fnExactSelfLinkings", unfollowed := true, recurses := true, apart := false, narrowed := true }
def FnExactSelfLinkingsUptoSaid : Prop := fnExactSelfLinkingsUptoRow.holds Try.pinned (OpenSpec.upto fnExactSelfLinkingsSpec)

/-- 'laws.FnExactTurnNumbers', WHERE WHAT IT READS IS OF BULK AT MOST 1048576: true; the input reads as it did. -/
def fnExactTurnNumbersUptoRow : OpenClaim := { program := "ytkboldcnkkolkaa", sum := "623f068dee9c7562fd8c086a34f1e5822070b6d578b0aa21294507b4fe0cf78c", func := "loop.example/g01228/laws.FnExactTurnNumbers", spec := "fnExactTurnNumbers", unfollowed := true, recurses := true, apart := false, narrowed := true }
def FnExactTurnNumbersUptoSaid : Prop := fnExactTurnNumbersUptoRow.holds Try.pinned (OpenSpec.upto fnExactTurnNumbersSpec)

/-- 'laws.FnExactCountMaps', WHERE WHAT IT READS IS OF BULK AT MOST 1048576: true; the input reads as it did. -/
def fnExactCountMapsUptoRow : OpenClaim := { program := "ytkboldcnkkolkaa", sum := "623f068dee9c7562fd8c086a34f1e5822070b6d578b0aa21294507b4fe0cf78c", func := "loop.example/g01228/laws.FnExactCountMaps", spec := "fnExactCountMaps", unfollowed := true, recurses := true, apart := false, narrowed := true }
def FnExactCountMapsUptoSaid : Prop := fnExactCountMapsUptoRow.holds Try.pinned (OpenSpec.upto fnExactCountMapsSpec)

/-- 'laws.FnExactColouringBasis', WHERE WHAT IT READS IS OF BULK AT MOST 1048576: true; the input reads as it did. -/
def fnExactColouringBasisUptoRow : OpenClaim := { program := "ytkboldcnkkolkaa", sum := "623f068dee9c7562fd8c086a34f1e5822070b6d578b0aa21294507b4fe0cf78c", func := "loop.example/g01228/laws.FnExactColouringBasis", spec := "fnExactColouringBasis", unfollowed := true, recurses := true, apart := false, narrowed := true }
def FnExactColouringBasisUptoSaid : Prop := fnExactColouringBasisUptoRow.holds Try.pinned (OpenSpec.upto fnExactColouringBasisSpec)

/-- 'laws.FnExactComponentNumbers', WHERE WHAT IT READS IS OF BULK AT MOST 1048576: true; the input reads as it did. -/
def fnExactComponentNumbersUptoRow : OpenClaim := { program := "ytkboldcnkkolkaa", sum := "623f068dee9c7562fd8c086a34f1e5822070b6d578b0aa21294507b4fe0cf78c", func := "loop.example/g01228/laws.FnExactComponentNumbers", spec := "fnExactComponentNumbers", unfollowed := true, recurses := true, apart := false, narrowed := true }
def FnExactComponentNumbersUptoSaid : Prop := fnExactComponentNumbersUptoRow.holds Try.pinned (OpenSpec.upto fnExactComponentNumbersSpec)

/-- 'laws.FnExactCountTransitive', WHERE WHAT IT READS IS OF BULK AT MOST 1048576: true; the input reads as it did. -/
def fnExactCountTransitiveUptoRow : OpenClaim := { program := "ytkboldcnkkolkaa", sum := "623f068dee9c7562fd8c086a34f1e5822070b6d578b0aa21294507b4fe0cf78c", func := "loop.example/g01228/laws.FnExactCountTransitive", spec := "fnExactCountTransitive", unfollowed := true, recurses := true, apart := false, narrowed := true }
def FnExactCountTransitiveUptoSaid : Prop := fnExactCountTransitiveUptoRow.holds Try.pinned (OpenSpec.upto fnExactCountTransitiveSpec)

end Rows
end Go.Proofs.Ytkboldcnkkolkaa
