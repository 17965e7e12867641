/-
  No cell of these rows narrows 'for every input' (looked for: loops, veiled, ifaces, maps, wideKeys, modest, calm, conditions, laid).
  DERIVED. THE GIVEN ROWS OF THIS SEAT. 10 by the template 'for every input the law returns true; each argument reads behind the call as it read before'; 0 by the template 'total and deterministic' (their statements: YtlpfpjbmikpheaaTotals.lean).
  GIVEN WITH THE SEED: the statements are not yours to turn. If you find one false, say at which input.
  Laid BY PROGRAM, IN A SANDBOX (cutbox-rows.mjs): the forced cells as the released guide's own fill.sh prints them over the translation 2df01fff45553bbc… (all of the seat's roots in one cut). By AI agents, Wed Nov 11 2026. No macro, syntax, notation, axiom, sorry.
-/
import Derived.Test.YtlpfpjbmikpheaaChecked
import GoSem.Claim
import GoSem.ClaimJoined
import GoSem.ClaimMapViews
import Derived.JoinedTies
import Derived.KernelRfl
namespace Go.Proofs.Ytlpfpjbmikpheaa
/- THE CELL 'sum', in the pinned program and in every row, IS THE sha256 OF THE DUMP (.gsa) THAT YtlpfpjbmikpheaaProg.lean LOADS. Nothing in Lean hashes anything: it is a label: what it is worth is what the hold of that sum in a sandbox is worth. -/
noncomputable def Try.pinned : Pinned := { name := "ytlpfpjbmikpheaa", sum := "2df01fff45553bbcfbf16d34a1b1eac126817ddd62d90fe3ad0b575a3bbd7b12", checked := Try.checked }
namespace Rows
def none {H : Type} : Left H := { results := [], args := [] }

/-- 'laws.FnExactIsMosaic': WHATEVER THE INPUT: true; the input reads as it did. -/
def fnExactIsMosaicSpec : ChangeSpec := { name := "fnExactIsMosaic", fn := fun _ => fun
  | [d] => { results := [.lit (.bool true)], args := [d] }
  | _ => none }
def fnExactIsMosaicRow : OpenClaim := { program := "ytlpfpjbmikpheaa", sum := "2df01fff45553bbcfbf16d34a1b1eac126817ddd62d90fe3ad0b575a3bbd7b12", func := "loop.example/g01228/laws.FnExactIsMosaic", spec := "fnExactIsMosaic", apart := false }
def FnExactIsMosaicSaid : Prop := fnExactIsMosaicRow.holds Try.pinned (OpenSpec.ofChange fnExactIsMosaicSpec)

/-- ITS FALSE NEIGHBOUR: 'it returns false'. Refute it at one input. -/
def fnExactIsMosaicWrong : ChangeSpec := { name := "fnExactIsMosaic", fn := fun _ => fun
  | [d] => { results := [.lit (.bool false)], args := [d] }
  | _ => none }
def FnExactIsMosaicWrongFalsely : Prop := fnExactIsMosaicRow.holds Try.pinned (OpenSpec.ofChange fnExactIsMosaicWrong)

/-- 'laws.FnExactIsPlaces': WHATEVER THE INPUT: true; the input reads as it did. -/
def fnExactIsPlacesSpec : ChangeSpec := { name := "fnExactIsPlaces", fn := fun _ => fun
  | [d1, d2] => { results := [.lit (.bool true)], args := [d1, d2] }
  | _ => none }
def fnExactIsPlacesRow : OpenClaim := { program := "ytlpfpjbmikpheaa", sum := "2df01fff45553bbcfbf16d34a1b1eac126817ddd62d90fe3ad0b575a3bbd7b12", func := "loop.example/g01228/laws.FnExactIsPlaces", spec := "fnExactIsPlaces", apart := false }
def FnExactIsPlacesSaid : Prop := fnExactIsPlacesRow.holds Try.pinned (OpenSpec.ofChange fnExactIsPlacesSpec)

/-- ITS FALSE NEIGHBOUR: 'it returns false'. Refute it at one input. -/
def fnExactIsPlacesWrong : ChangeSpec := { name := "fnExactIsPlaces", fn := fun _ => fun
  | [d1, d2] => { results := [.lit (.bool false)], args := [d1, d2] }
  | _ => none }
def FnExactIsPlacesWrongFalsely : Prop := fnExactIsPlacesRow.holds Try.pinned (OpenSpec.ofChange fnExactIsPlacesWrong)

/-- 'laws.FnExactCountTiles': WHATEVER THE INPUT: true; the input reads as it did. -/
def fnExactCountTilesSpec : ChangeSpec := { name := "fnExactCountTiles", fn := fun _ => fun
  | [d] => { results := [.lit (.bool true)], args := [d] }
  | _ => none }
def fnExactCountTilesRow : OpenClaim := { program := "ytlpfpjbmikpheaa", sum := "2df01fff45553bbcfbf16d34a1b1eac126817ddd62d90fe3ad0b575a3bbd7b12", func := "loop.example/g01228/laws.FnExactCountTiles", spec := "fnExactCountTiles", apart := false }
def FnExactCountTilesSaid : Prop := fnExactCountTilesRow.holds Try.pinned (OpenSpec.ofChange fnExactCountTilesSpec)

/-- ITS FALSE NEIGHBOUR: 'it returns false'. Refute it at one input. -/
def fnExactCountTilesWrong : ChangeSpec := { name := "fnExactCountTiles", fn := fun _ => fun
  | [d] => { results := [.lit (.bool false)], args := [d] }
  | _ => none }
def FnExactCountTilesWrongFalsely : Prop := fnExactCountTilesRow.holds Try.pinned (OpenSpec.ofChange fnExactCountTilesWrong)

/-- 'laws.FnExactLowerState': WHATEVER THE INPUT: true; the input reads as it did. -/
def fnExactLowerStateSpec : ChangeSpec := { name := "fnExactLowerState", fn := fun _ => fun
  | [d] => { results := [.lit (.bool true)], args := [d] }
  | _ => none }
def fnExactLowerStateRow : OpenClaim := { program := "ytlpfpjbmikpheaa", sum := "2df01fff45553bbcfbf16d34a1b1eac126817ddd62d90fe3ad0b575a3bbd7b12", func := "loop.example/g01228/laws.FnExactLowerState", spec := "fnExactLowerState", unfollowed := true, recurses := true, apart := false }
def FnExactLowerStateSaid : Prop := fnExactLowerStateRow.holds Try.pinned (OpenSpec.ofChange fnExactLowerStateSpec)

/-- ITS FALSE NEIGHBOUR: 'it returns false'. Refute it at one input. -/
def fnExactLowerStateWrong : ChangeSpec := { name := "fnExactLowerState", fn := fun _ => fun
  | [d] => { results := [.lit (.bool false)], args := [d] }
  | _ => none }
def FnExactLowerStateWrongFalsely : Prop := fnExactLowerStateRow.holds Try.pinned (OpenSpec.ofChange fnExactLowerStateWrong)

/-- 'laws.FnExactUpperState': WHATEVER THE INPUT: true; the input reads as it did. -/
def fnExactUpperStateSpec : ChangeSpec := { name := "fnExactUpperState", fn := fun _ => fun
  | [d] => { results := [.lit (.bool true)], args := [d] }
  | _ => none }
def fnExactUpperStateRow : OpenClaim := { program := "ytlpfpjbmikpheaa", sum := "2df01fff45553bbcfbf16d34a1b1eac126817ddd62d90fe3ad0b575a3bbd7b12", func := "loop.example/g01228/laws.FnExactUpperState", spec := "fnExactUpperState", unfollowed := true, recurses := true, apart := false }
def FnExactUpperStateSaid : Prop := fnExactUpperStateRow.holds Try.pinned (OpenSpec.ofChange fnExactUpperStateSpec)

/-- ITS FALSE NEIGHBOUR: 'it returns false'. Refute it at one input. -/
def fnExactUpperStateWrong : ChangeSpec := { name := "fnExactUpperState", fn := fun _ => fun
  | [d] => { results := [.lit (.bool false)], args := [d] }
  | _ => none }
def FnExactUpperStateWrongFalsely : Prop := fnExactUpperStateRow.holds Try.pinned (OpenSpec.ofChange fnExactUpperStateWrong)

/-- 'laws.FnExactTransposeOf': WHATEVER THE INPUT: true; the input reads as it did. -/
def fnExactTransposeOfSpec : ChangeSpec := { name := "fnExactTransposeOf", fn := fun _ => fun
  | [d] => { results := [.lit (.bool true)], args := [d] }
  | _ => none }
def fnExactTransposeOfRow : OpenClaim := { program := "ytlpfpjbmikpheaa", sum := "2df01fff45553bbcfbf16d34a1b1eac126817ddd62d90fe3ad0b575a3bbd7b12", func := "loop.example/g01228/laws.FnExactTransposeOf", spec := "fnExactTransposeOf", unfollowed := true, recurses := true, apart := false }
def FnExactTransposeOfSaid : Prop := fnExactTransposeOfRow.holds Try.pinned (OpenSpec.ofChange fnExactTransposeOfSpec)

/-- ITS FALSE NEIGHBOUR: 'it returns false'. Refute it at one input. -/
def fnExactTransposeOfWrong : ChangeSpec := { name := "fnExactTransposeOf", fn := fun _ => fun
  | [d] => { results := [.lit (.bool false)], args := [d] }
  | _ => none }
def FnExactTransposeOfWrongFalsely : Prop := fnExactTransposeOfRow.holds Try.pinned (OpenSpec.ofChange fnExactTransposeOfWrong)

/-- 'laws.FnExactDirectionsOf': WHATEVER THE INPUT: true; the input reads as it did. -/
def fnExactDirectionsOfSpec : ChangeSpec := { name := "fnExactDirectionsOf", fn := fun _ => fun
  | [d] => { results := [.lit (.bool true)], args := [d] }
  | _ => none }
def fnExactDirectionsOfRow : OpenClaim := { program := "ytlpfpjbmikpheaa", sum := "2df01fff45553bbcfbf16d34a1b1eac126817ddd62d90fe3ad0b575a3bbd7b12", func := "loop.example/g01228/laws.FnExactDirectionsOf", spec := "fnExactDirectionsOf", unfollowed := true, recurses := true, apart := false }
def FnExactDirectionsOfSaid : Prop := fnExactDirectionsOfRow.holds Try.pinned (OpenSpec.ofChange fnExactDirectionsOfSpec)

/-- ITS FALSE NEIGHBOUR: 'it returns false'. Refute it at one input. -/
def fnExactDirectionsOfWrong : ChangeSpec := { name := "fnExactDirectionsOf", fn := fun _ => fun
  | [d] => { results := [.lit (.bool false)], args := [d] }
  | _ => none }
def FnExactDirectionsOfWrongFalsely : Prop := fnExactDirectionsOfRow.holds Try.pinned (OpenSpec.ofChange fnExactDirectionsOfWrong)

/-- 'laws.FnExactShiftGrid': WHATEVER THE INPUT: true; the input reads as it did. -/
def fnExactShiftGridSpec : ChangeSpec := { name := "fnExactShiftGrid", fn := fun _ => fun
  | [d1, d2, d3] => { results := [.lit (.bool true)], args := [d1, d2, d3] }
  | _ => none }
def fnExactShiftGridRow : OpenClaim := { program := "ytlpfpjbmikpheaa", sum := "2df01fff45553bbcfbf16d34a1b1eac126817ddd62d90fe3ad0b575a3bbd7b12", func := "loop.example/g01228/laws.FnExactShiftGrid", spec := "fnExactShiftGrid", unfollowed := true, recurses := true, apart := false }
def FnExactShiftGridSaid : Prop := fnExactShiftGridRow.holds Try.pinned (OpenSpec.ofChange fnExactShiftGridSpec)

/-- ITS FALSE NEIGHBOUR: 'it returns false'. Refute it at one input. -/
def fnExactShiftGridWrong : ChangeSpec := { name := "fnExactShiftGrid", fn := fun _ => fun
  | [d1, d2, d3] => { results := [.lit (.bool false)], args := [d1, d2, d3] }
  | _ => none }
def FnExactShiftGridWrongFalsely : Prop := fnExactShiftGridRow.holds Try.pinned (OpenSpec.ofChange fnExactShiftGridWrong)

/-- 'laws.FnExactAlexanderNumber': WHATEVER THE INPUT: true; the input reads as it did. -/
def fnExactAlexanderNumberSpec : ChangeSpec := { name := "fnExactAlexanderNumber", fn := fun _ => fun
  | [d1, d2] => { results := [.lit (.bool true)], args := [d1, d2] }
  | _ => none }
def fnExactAlexanderNumberRow : OpenClaim := { program := "ytlpfpjbmikpheaa", sum := "2df01fff45553bbcfbf16d34a1b1eac126817ddd62d90fe3ad0b575a3bbd7b12", func := "loop.example/g01228/laws.FnExactAlexanderNumber", spec := "fnExactAlexanderNumber", unfollowed := true, recurses := true, apart := false }
def FnExactAlexanderNumberSaid : Prop := fnExactAlexanderNumberRow.holds Try.pinned (OpenSpec.ofChange fnExactAlexanderNumberSpec)

/-- ITS FALSE NEIGHBOUR: 'it returns false'. Refute it at one input. -/
def fnExactAlexanderNumberWrong : ChangeSpec := { name := "fnExactAlexanderNumber", fn := fun _ => fun
  | [d1, d2] => { results := [.lit (.bool false)], args := [d1, d2] }
  | _ => none }
def FnExactAlexanderNumberWrongFalsely : Prop := fnExactAlexanderNumberRow.holds Try.pinned (OpenSpec.ofChange fnExactAlexanderNumberWrong)

/-- 'laws.FnExactIsTransitive': WHATEVER THE INPUT: true; the input reads as it did. -/
def fnExactIsTransitiveSpec : ChangeSpec := { name := "fnExactIsTransitive", fn := fun _ => fun
  | [d1, d2] => { results := [.lit (.bool true)], args := [d1, d2] }
  | _ => none }
def fnExactIsTransitiveRow : OpenClaim := { program := "ytlpfpjbmikpheaa", sum := "2df01fff45553bbcfbf16d34a1b1eac126817ddd62d90fe3ad0b575a3bbd7b12", func := "loop.example/g01228/laws.FnExactIsTransitive", spec := "fnExactIsTransitive", unfollowed := true, recurses := true, apart := false }
def FnExactIsTransitiveSaid : Prop := fnExactIsTransitiveRow.holds Try.pinned (OpenSpec.ofChange fnExactIsTransitiveSpec)

/-- ITS FALSE NEIGHBOUR: 'it returns false'. Refute it at one input. -/
def fnExactIsTransitiveWrong : ChangeSpec := { name := "fnExactIsTransitive", fn := fun _ => fun
  | [d1, d2] => { results := [.lit (.bool false)], args := [d1, d2] }
  | _ => none }
def FnExactIsTransitiveWrongFalsely : Prop := fnExactIsTransitiveRow.holds Try.pinned (OpenSpec.ofChange fnExactIsTransitiveWrong)

/- THE SECOND FORM. 'bulk': how many values and letters a reading holds, each counted each time it is reached (what is shared counts as often as it is met; a slice's spare places count too). A statement '..UptoSaid' is the law's where the arguments, and the package variables that the reading takes, are together of bulk at most 1048576: NARROWER than '..Said'. Prove '..Said' where nothing that the law and all that it calls make is longer than what came in: it says more and counts as full. Else prove '..UptoSaid'. A law counts once. -/
mutual
def uptoBulk {H : Type} : DataW H → Nat
  | .lit (.string bytes) => bytes.length + 1
  | .lit _ => 1
  | .nil => 1
  | .ptr d => uptoBulk d + 1
  | .slice elems spare => uptoBulkAll elems + uptoBulkAll spare + 1
  | .agg parts => uptoBulkAll parts + 1
  | .iface _ d => uptoBulk d + 1
  | .map entries => uptoBulkEntries entries + 1
  | .held _ => 1
def uptoBulkAll {H : Type} : List (DataW H) → Nat
  | [] => 0
  | d :: r => uptoBulk d + uptoBulkAll r
def uptoBulkEntries {H : Type} : List (Lit × DataW H) → Nat
  | [] => 0
  | x :: r => uptoBulkEntry x + uptoBulkEntries r
def uptoBulkEntry {H : Type} : Lit × DataW H → Nat
  | (.string bytes, d) => bytes.length + uptoBulk d + 1
  | (_, d) => uptoBulk d + 1
 end
def uptoSmall : (H : Type) → List (DataW H) → Bool := fun _ ds => decide (uptoBulkAll ds ≤ 1048576)
def OpenSpec.upto (s : _root_.Go.ChangeSpec) : _root_.Go.OpenSpec := { _root_.Go.OpenSpec.ofChange s with cond := some uptoSmall }

/-- 'laws.FnExactIsMosaic', WHERE WHAT IT READS IS OF BULK AT MOST 1048576: true; the input reads as it did. -/
def fnExactIsMosaicUptoRow : OpenClaim := { program := "ytlpfpjbmikpheaa", sum := "2df01fff45553bbcfbf16d34a1b1eac126817ddd62d90fe3ad0b575a3bbd7b12", func := "loop.example/g01228/laws.FnExactIsMosaic", spec := "fnExactIsMosaic", apart := false, narrowed := true }
def FnExactIsMosaicUptoSaid : Prop := fnExactIsMosaicUptoRow.holds Try.pinned (OpenSpec.upto fnExactIsMosaicSpec)

/-- 'laws.FnExactIsPlaces', WHERE WHAT IT READS IS OF BULK AT MOST 1048576: true; the input reads as it did. -/
def fnExactIsPlacesUptoRow : OpenClaim := { program := "ytlpfpjbmikpheaa", sum := "2df01fff45553bbcfbf16d34a1b1eac126817ddd62d90fe3ad0b575a3bbd7b12", func := "loop.example/g01228/laws.FnExactIsPlaces", spec := "fnExactIsPlaces", apart := false, narrowed := true }
def FnExactIsPlacesUptoSaid : Prop := fnExactIsPlacesUptoRow.holds Try.pinned (OpenSpec.upto fnExactIsPlacesSpec)

/-- 'laws.FnExactCountTiles', WHERE WHAT IT READS IS OF BULK AT MOST 1048576: true; the input reads as it did. -/
def fnExactCountTilesUptoRow : OpenClaim := { program := "ytlpfpjbmikpheaa", sum := "2df01fff45553bbcfbf16d34a1b1eac126817ddd62d90fe3ad0b575a3bbd7b12", func := "loop.example/g01228/laws.FnExactCountTiles", spec := "fnExactCountTiles", apart := false, narrowed := true }
def FnExactCountTilesUptoSaid : Prop := fnExactCountTilesUptoRow.holds Try.pinned (OpenSpec.upto fnExactCountTilesSpec)

/-- 'laws.FnExactLowerState', WHERE WHAT IT READS IS OF BULK AT MOST 1048576: true; the input reads as it did. -/
def fnExactLowerStateUptoRow : OpenClaim := { program := "ytlpfpjbmikpheaa", sum := "2df01fff45553bbcfbf16d34a1b1eac126817ddd62d90fe3ad0b575a3bbd7b12", func := "loop.example/g01228/laws.FnExactLowerState", spec := "fnExactLowerState", unfollowed := true, recurses := true, apart := false, narrowed := true }
def FnExactLowerStateUptoSaid : Prop := fnExactLowerStateUptoRow.holds Try.pinned (OpenSpec.upto fnExactLowerStateSpec)

/-- 'laws.FnExactUpperState', WHERE WHAT IT READS IS OF BULK AT MOST 1048576: true; the input reads as it did. -/
def fnExactUpperStateUptoRow : OpenClaim := { program := "ytlpfpjbmikpheaa", sum := "2df01fff45553bbcfbf16d34a1b1eac126817ddd62d90fe3ad0b575a3bbd7b12", func := "loop.example/g01228/laws.FnExactUpperState", spec := "fnExactUpperState", unfollowed := true, recurses := true, apart := false, narrowed := true }
def FnExactUpperStateUptoSaid : Prop := fnExactUpperStateUptoRow.holds Try.pinned (OpenSpec.upto fnExactUpperStateSpec)

/-- 'laws.FnExactTransposeOf', WHERE WHAT IT READS IS OF BULK AT MOST 1048576: true; the input reads as it did. -/
def fnExactTransposeOfUptoRow : OpenClaim := { program := "ytlpfpjbmikpheaa", sum := "2df01fff45553bbcfbf16d34a1b1eac126817ddd62d90fe3ad0b575a3bbd7b12", func := "loop.example/g01228/laws.FnExactTransposeOf", spec := "fnExactTransposeOf", unfollowed := true, recurses := true, apart := false, narrowed := true }
def FnExactTransposeOfUptoSaid : Prop := fnExactTransposeOfUptoRow.holds Try.pinned (OpenSpec.upto fnExactTransposeOfSpec)

/-- 'laws.FnExactDirectionsOf', WHERE WHAT IT READS IS OF BULK AT MOST 1048576: true; the input reads as it did. -/
def fnExactDirectionsOfUptoRow : OpenClaim := { program := "ytlpfpjbmikpheaa", sum := "2df01fff45553bbcfbf16d34a1b1eac126817ddd62d90fe3ad0b575a3bbd7b12", func := "loop.example/g01228/laws.FnExactDirectionsOf", spec := "fnExactDirectionsOf", unfollowed := true, recurses := true, apart := false, narrowed := true }
def FnExactDirectionsOfUptoSaid : Prop := fnExactDirectionsOfUptoRow.holds Try.pinned (OpenSpec.upto fnExactDirectionsOfSpec)

/-- 'laws.FnExactShiftGrid', WHERE WHAT IT READS IS OF BULK AT MOST 1048576: true; the input reads as it did. -/
def fnExactShiftGridUptoRow : OpenClaim := { program := "ytlpfpjbmikpheaa", sum := "2df01fff45553bbcfbf16d34a1b1eac126817ddd62d90fe3ad0b575a3bbd7b12", func := "loop.example/g01228/laws.FnExactShiftGrid", spec := "fnExactShiftGrid", unfollowed := true, recurses := true, apart := false, narrowed := true }
def FnExactShiftGridUptoSaid : Prop := fnExactShiftGridUptoRow.holds Try.pinned (OpenSpec.upto fnExactShiftGridSpec)

/-- 'laws.FnExactAlexanderNumber', WHERE WHAT IT READS IS OF BULK AT MOST 1048576: true; the input reads as it did. -/
def fnExactAlexanderNumberUptoRow : OpenClaim := { program := "ytlpfpjbmikpheaa", sum := "2df01fff45553bbcfbf16d34a1b1eac126817ddd62d90fe3ad0b575a3bbd7b12", func := "loop.example/g01228/laws.FnExactAlexanderNumber", spec := "fnExactAlexanderNumber", unfollowed := true, recurses := true, apart := false, narrowed := true }
def FnExactAlexanderNumberUptoSaid : Prop := fnExactAlexanderNumberUptoRow.holds Try.pinned (OpenSpec.upto fnExactAlexanderNumberSpec)

/-- 'laws.FnExactIsTransitive', WHERE WHAT IT READS IS OF BULK AT MOST 1048576: true; the input reads as it did. -/
def fnExactIsTransitiveUptoRow : OpenClaim := { program := "ytlpfpjbmikpheaa", sum := "2df01fff45553bbcfbf16d34a1b1eac126817ddd62d90fe3ad0b575a3bbd7b12", func := "loop.example/g01228/laws.FnExactIsTransitive", spec := "fnExactIsTransitive", unfollowed := true, recurses := true, apart := false, narrowed := true }
def FnExactIsTransitiveUptoSaid : Prop := fnExactIsTransitiveUptoRow.holds Try.pinned (OpenSpec.upto fnExactIsTransitiveSpec)

end Rows
end Go.Proofs.Ytlpfpjbmikpheaa
