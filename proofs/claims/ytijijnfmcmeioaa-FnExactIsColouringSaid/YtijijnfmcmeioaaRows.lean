/-
  No cell of these rows narrows 'for every input' (looked for: loops, veiled, ifaces, maps, wideKeys, modest, calm, conditions, laid).
  DERIVED. THE GIVEN ROWS OF THIS SEAT. 11 by the template 'for every input the law returns true; each argument reads behind the call as it read before'; 0 by the template 'total and deterministic' (their statements: YtijijnfmcmeioaaTotals.lean).
  GIVEN WITH THE SEED: the statements are not yours to turn. If you find one false, say at which input.
  Laid BY PROGRAM, IN A SANDBOX (cutbox-rows.mjs): the forced cells as the released guide's own fill.sh prints them over the translation 72b1605c05d1b60c… (all of the seat's roots in one cut). By AI agents, Wed Nov 11 2026. No macro, syntax, notation, axiom, sorry.
-/
import Derived.Test.YtijijnfmcmeioaaChecked
import GoSem.Claim
import GoSem.ClaimJoined
import GoSem.ClaimMapViews
import Derived.JoinedTies
import Derived.KernelRfl
namespace Go.Proofs.Ytijijnfmcmeioaa
/- THE CELL 'sum', in the pinned program and in every row, IS THE sha256 OF THE DUMP (.gsa) THAT YtijijnfmcmeioaaProg.lean LOADS. Nothing in Lean hashes anything: it is a label: what it is worth is what the hold of that sum in a sandbox is worth. -/
noncomputable def Try.pinned : Pinned := { name := "ytijijnfmcmeioaa", sum := "72b1605c05d1b60cb7d0e8b8f9e5e73cdafaada7fb6879c1bd48a8ec4d1a3fad", checked := Try.checked }
namespace Rows
def none {H : Type} : Left H := { results := [], args := [] }

/-- 'laws.FnExactMaslovOf': WHATEVER THE INPUT: true; the input reads as it did. -/
def fnExactMaslovOfSpec : ChangeSpec := { name := "fnExactMaslovOf", fn := fun _ => fun
  | [d1, d2, d3] => { results := [.lit (.bool true)], args := [d1, d2, d3] }
  | _ => none }
def fnExactMaslovOfRow : OpenClaim := { program := "ytijijnfmcmeioaa", sum := "72b1605c05d1b60cb7d0e8b8f9e5e73cdafaada7fb6879c1bd48a8ec4d1a3fad", func := "loop.example/g01228/laws.FnExactMaslovOf", spec := "fnExactMaslovOf", unfollowed := true, recurses := true, apart := false }
def FnExactMaslovOfSaid : Prop := fnExactMaslovOfRow.holds Try.pinned (OpenSpec.ofChange fnExactMaslovOfSpec)

/-- ITS FALSE NEIGHBOUR: 'it returns false'. Refute it at one input. -/
def fnExactMaslovOfWrong : ChangeSpec := { name := "fnExactMaslovOf", fn := fun _ => fun
  | [d1, d2, d3] => { results := [.lit (.bool false)], args := [d1, d2, d3] }
  | _ => none }
def FnExactMaslovOfWrongFalsely : Prop := fnExactMaslovOfRow.holds Try.pinned (OpenSpec.ofChange fnExactMaslovOfWrong)

/-- 'laws.FnExactRelationsOf': WHATEVER THE INPUT: true; the input reads as it did. -/
def fnExactRelationsOfSpec : ChangeSpec := { name := "fnExactRelationsOf", fn := fun _ => fun
  | [d] => { results := [.lit (.bool true)], args := [d] }
  | _ => none }
def fnExactRelationsOfRow : OpenClaim := { program := "ytijijnfmcmeioaa", sum := "72b1605c05d1b60cb7d0e8b8f9e5e73cdafaada7fb6879c1bd48a8ec4d1a3fad", func := "loop.example/g01228/laws.FnExactRelationsOf", spec := "fnExactRelationsOf", unfollowed := true, recurses := true, apart := false }
def FnExactRelationsOfSaid : Prop := fnExactRelationsOfRow.holds Try.pinned (OpenSpec.ofChange fnExactRelationsOfSpec)

/-- ITS FALSE NEIGHBOUR: 'it returns false'. Refute it at one input. -/
def fnExactRelationsOfWrong : ChangeSpec := { name := "fnExactRelationsOf", fn := fun _ => fun
  | [d] => { results := [.lit (.bool false)], args := [d] }
  | _ => none }
def FnExactRelationsOfWrongFalsely : Prop := fnExactRelationsOfRow.holds Try.pinned (OpenSpec.ofChange fnExactRelationsOfWrong)

/-- 'laws.FnExactIsSum': WHATEVER THE INPUT: true; the input reads as it did. -/
def fnExactIsSumSpec : ChangeSpec := { name := "fnExactIsSum", fn := fun _ => fun
  | [d1, d2] => { results := [.lit (.bool true)], args := [d1, d2] }
  | _ => none }
def fnExactIsSumRow : OpenClaim := { program := "ytijijnfmcmeioaa", sum := "72b1605c05d1b60cb7d0e8b8f9e5e73cdafaada7fb6879c1bd48a8ec4d1a3fad", func := "loop.example/g01228/laws.FnExactIsSum", spec := "fnExactIsSum", apart := false }
def FnExactIsSumSaid : Prop := fnExactIsSumRow.holds Try.pinned (OpenSpec.ofChange fnExactIsSumSpec)

/-- ITS FALSE NEIGHBOUR: 'it returns false'. Refute it at one input. -/
def fnExactIsSumWrong : ChangeSpec := { name := "fnExactIsSum", fn := fun _ => fun
  | [d1, d2] => { results := [.lit (.bool false)], args := [d1, d2] }
  | _ => none }
def FnExactIsSumWrongFalsely : Prop := fnExactIsSumRow.holds Try.pinned (OpenSpec.ofChange fnExactIsSumWrong)

/-- 'laws.FnExactLedTo': WHATEVER THE INPUT: true; the input reads as it did. -/
def fnExactLedToSpec : ChangeSpec := { name := "fnExactLedTo", fn := fun _ => fun
  | [d1, d2, d3] => { results := [.lit (.bool true)], args := [d1, d2, d3] }
  | _ => none }
def fnExactLedToRow : OpenClaim := { program := "ytijijnfmcmeioaa", sum := "72b1605c05d1b60cb7d0e8b8f9e5e73cdafaada7fb6879c1bd48a8ec4d1a3fad", func := "loop.example/g01228/laws.FnExactLedTo", spec := "fnExactLedTo", unfollowed := true, recurses := true, apart := false }
def FnExactLedToSaid : Prop := fnExactLedToRow.holds Try.pinned (OpenSpec.ofChange fnExactLedToSpec)

/-- ITS FALSE NEIGHBOUR: 'it returns false'. Refute it at one input. -/
def fnExactLedToWrong : ChangeSpec := { name := "fnExactLedTo", fn := fun _ => fun
  | [d1, d2, d3] => { results := [.lit (.bool false)], args := [d1, d2, d3] }
  | _ => none }
def FnExactLedToWrongFalsely : Prop := fnExactLedToRow.holds Try.pinned (OpenSpec.ofChange fnExactLedToWrong)

/-- 'laws.FnExactCornersOf': WHATEVER THE INPUT: true; the input reads as it did. -/
def fnExactCornersOfSpec : ChangeSpec := { name := "fnExactCornersOf", fn := fun _ => fun
  | [d] => { results := [.lit (.bool true)], args := [d] }
  | _ => none }
def fnExactCornersOfRow : OpenClaim := { program := "ytijijnfmcmeioaa", sum := "72b1605c05d1b60cb7d0e8b8f9e5e73cdafaada7fb6879c1bd48a8ec4d1a3fad", func := "loop.example/g01228/laws.FnExactCornersOf", spec := "fnExactCornersOf", unfollowed := true, recurses := true, apart := false }
def FnExactCornersOfSaid : Prop := fnExactCornersOfRow.holds Try.pinned (OpenSpec.ofChange fnExactCornersOfSpec)

/-- ITS FALSE NEIGHBOUR: 'it returns false'. Refute it at one input. -/
def fnExactCornersOfWrong : ChangeSpec := { name := "fnExactCornersOf", fn := fun _ => fun
  | [d] => { results := [.lit (.bool false)], args := [d] }
  | _ => none }
def FnExactCornersOfWrongFalsely : Prop := fnExactCornersOfRow.holds Try.pinned (OpenSpec.ofChange fnExactCornersOfWrong)

/-- 'laws.FnExactCountCusps': WHATEVER THE INPUT: true; the input reads as it did. -/
def fnExactCountCuspsSpec : ChangeSpec := { name := "fnExactCountCusps", fn := fun _ => fun
  | [d] => { results := [.lit (.bool true)], args := [d] }
  | _ => none }
def fnExactCountCuspsRow : OpenClaim := { program := "ytijijnfmcmeioaa", sum := "72b1605c05d1b60cb7d0e8b8f9e5e73cdafaada7fb6879c1bd48a8ec4d1a3fad", func := "loop.example/g01228/laws.FnExactCountCusps", spec := "fnExactCountCusps", unfollowed := true, recurses := true, apart := false }
def FnExactCountCuspsSaid : Prop := fnExactCountCuspsRow.holds Try.pinned (OpenSpec.ofChange fnExactCountCuspsSpec)

/-- ITS FALSE NEIGHBOUR: 'it returns false'. Refute it at one input. -/
def fnExactCountCuspsWrong : ChangeSpec := { name := "fnExactCountCusps", fn := fun _ => fun
  | [d] => { results := [.lit (.bool false)], args := [d] }
  | _ => none }
def FnExactCountCuspsWrongFalsely : Prop := fnExactCountCuspsRow.holds Try.pinned (OpenSpec.ofChange fnExactCountCuspsWrong)

/-- 'laws.FnExactIsColouring': WHATEVER THE INPUT: true; the input reads as it did. -/
def fnExactIsColouringSpec : ChangeSpec := { name := "fnExactIsColouring", fn := fun _ => fun
  | [d1, d2, d3] => { results := [.lit (.bool true)], args := [d1, d2, d3] }
  | _ => none }
def fnExactIsColouringRow : OpenClaim := { program := "ytijijnfmcmeioaa", sum := "72b1605c05d1b60cb7d0e8b8f9e5e73cdafaada7fb6879c1bd48a8ec4d1a3fad", func := "loop.example/g01228/laws.FnExactIsColouring", spec := "fnExactIsColouring", unfollowed := true, recurses := true, apart := false }
def FnExactIsColouringSaid : Prop := fnExactIsColouringRow.holds Try.pinned (OpenSpec.ofChange fnExactIsColouringSpec)

/-- ITS FALSE NEIGHBOUR: 'it returns false'. Refute it at one input. -/
def fnExactIsColouringWrong : ChangeSpec := { name := "fnExactIsColouring", fn := fun _ => fun
  | [d1, d2, d3] => { results := [.lit (.bool false)], args := [d1, d2, d3] }
  | _ => none }
def FnExactIsColouringWrongFalsely : Prop := fnExactIsColouringRow.holds Try.pinned (OpenSpec.ofChange fnExactIsColouringWrong)

/-- 'laws.FnExactExchangeRows': WHATEVER THE INPUT: true; the input reads as it did. -/
def fnExactExchangeRowsSpec : ChangeSpec := { name := "fnExactExchangeRows", fn := fun _ => fun
  | [d1, d2] => { results := [.lit (.bool true)], args := [d1, d2] }
  | _ => none }
def fnExactExchangeRowsRow : OpenClaim := { program := "ytijijnfmcmeioaa", sum := "72b1605c05d1b60cb7d0e8b8f9e5e73cdafaada7fb6879c1bd48a8ec4d1a3fad", func := "loop.example/g01228/laws.FnExactExchangeRows", spec := "fnExactExchangeRows", unfollowed := true, recurses := true, apart := false }
def FnExactExchangeRowsSaid : Prop := fnExactExchangeRowsRow.holds Try.pinned (OpenSpec.ofChange fnExactExchangeRowsSpec)

/-- ITS FALSE NEIGHBOUR: 'it returns false'. Refute it at one input. -/
def fnExactExchangeRowsWrong : ChangeSpec := { name := "fnExactExchangeRows", fn := fun _ => fun
  | [d1, d2] => { results := [.lit (.bool false)], args := [d1, d2] }
  | _ => none }
def FnExactExchangeRowsWrongFalsely : Prop := fnExactExchangeRowsRow.holds Try.pinned (OpenSpec.ofChange fnExactExchangeRowsWrong)

/-- 'laws.FnExactRectanglesFrom': WHATEVER THE INPUT: true; the input reads as it did. -/
def fnExactRectanglesFromSpec : ChangeSpec := { name := "fnExactRectanglesFrom", fn := fun _ => fun
  | [d1, d2] => { results := [.lit (.bool true)], args := [d1, d2] }
  | _ => none }
def fnExactRectanglesFromRow : OpenClaim := { program := "ytijijnfmcmeioaa", sum := "72b1605c05d1b60cb7d0e8b8f9e5e73cdafaada7fb6879c1bd48a8ec4d1a3fad", func := "loop.example/g01228/laws.FnExactRectanglesFrom", spec := "fnExactRectanglesFrom", unfollowed := true, recurses := true, apart := false }
def FnExactRectanglesFromSaid : Prop := fnExactRectanglesFromRow.holds Try.pinned (OpenSpec.ofChange fnExactRectanglesFromSpec)

/-- ITS FALSE NEIGHBOUR: 'it returns false'. Refute it at one input. -/
def fnExactRectanglesFromWrong : ChangeSpec := { name := "fnExactRectanglesFrom", fn := fun _ => fun
  | [d1, d2] => { results := [.lit (.bool false)], args := [d1, d2] }
  | _ => none }
def FnExactRectanglesFromWrongFalsely : Prop := fnExactRectanglesFromRow.holds Try.pinned (OpenSpec.ofChange fnExactRectanglesFromWrong)

/-- 'laws.FnExactMultiplyLaurents': WHATEVER THE INPUT: true; the input reads as it did. -/
def fnExactMultiplyLaurentsSpec : ChangeSpec := { name := "fnExactMultiplyLaurents", fn := fun _ => fun
  | [d1, d2] => { results := [.lit (.bool true)], args := [d1, d2] }
  | _ => none }
def fnExactMultiplyLaurentsRow : OpenClaim := { program := "ytijijnfmcmeioaa", sum := "72b1605c05d1b60cb7d0e8b8f9e5e73cdafaada7fb6879c1bd48a8ec4d1a3fad", func := "loop.example/g01228/laws.FnExactMultiplyLaurents", spec := "fnExactMultiplyLaurents", unfollowed := true, recurses := true, apart := false }
def FnExactMultiplyLaurentsSaid : Prop := fnExactMultiplyLaurentsRow.holds Try.pinned (OpenSpec.ofChange fnExactMultiplyLaurentsSpec)

/-- ITS FALSE NEIGHBOUR: 'it returns false'. Refute it at one input. -/
def fnExactMultiplyLaurentsWrong : ChangeSpec := { name := "fnExactMultiplyLaurents", fn := fun _ => fun
  | [d1, d2] => { results := [.lit (.bool false)], args := [d1, d2] }
  | _ => none }
def FnExactMultiplyLaurentsWrongFalsely : Prop := fnExactMultiplyLaurentsRow.holds Try.pinned (OpenSpec.ofChange fnExactMultiplyLaurentsWrong)

/-- 'laws.FnExactEmptyRectangles': WHATEVER THE INPUT: true; the input reads as it did. -/
def fnExactEmptyRectanglesSpec : ChangeSpec := { name := "fnExactEmptyRectangles", fn := fun _ => fun
  | [d1, d2] => { results := [.lit (.bool true)], args := [d1, d2] }
  | _ => none }
def fnExactEmptyRectanglesRow : OpenClaim := { program := "ytijijnfmcmeioaa", sum := "72b1605c05d1b60cb7d0e8b8f9e5e73cdafaada7fb6879c1bd48a8ec4d1a3fad", func := "loop.example/g01228/laws.FnExactEmptyRectangles", spec := "fnExactEmptyRectangles", unfollowed := true, recurses := true, apart := false }
def FnExactEmptyRectanglesSaid : Prop := fnExactEmptyRectanglesRow.holds Try.pinned (OpenSpec.ofChange fnExactEmptyRectanglesSpec)

/-- ITS FALSE NEIGHBOUR: 'it returns false'. Refute it at one input. -/
def fnExactEmptyRectanglesWrong : ChangeSpec := { name := "fnExactEmptyRectangles", fn := fun _ => fun
  | [d1, d2] => { results := [.lit (.bool false)], args := [d1, d2] }
  | _ => none }
def FnExactEmptyRectanglesWrongFalsely : Prop := fnExactEmptyRectanglesRow.holds Try.pinned (OpenSpec.ofChange fnExactEmptyRectanglesWrong)

/- THE SECOND FORM. 'bulk': how many values and letters a reading holds, each counted each time it is reached (what is shared counts as often as it is met; a slice's spare places count too). A statement '..UptoSaid' is the law's where the arguments, and the package variables that the reading takes, are together of bulk at most 1048576: NARROWER than '..Said'. Prove '..Said' where nothing that the law and all that it calls make is longer than what came in: it says more and counts as full. Else prove '..UptoSaid'. A law counts once. -/
mutual
def uptoBulk {H : Type} : DataW H → Nat
  | .lit (.string bytes) => bytes.length + 1
  | .lit _ => 1
  | .nil => 1
  | .ptr d => uptoBulk d + 1
  | .slice elems spare => uptoBulkAll elems + uptoBulkAll spare + 1
  | .agg parts => uptoBulkAll parts + 1
  | .iface _ d => uptoBulk d + 1
  | .map entries => uptoBulkEntries entries + 1
  | .held _ => 1
def uptoBulkAll {H : Type} : List (DataW H) → Nat
  | [] => 0
  | d :: r => uptoBulk d + uptoBulkAll r
def uptoBulkEntries {H : Type} : List (Lit × DataW H) → Nat
  | [] => 0
  | x :: r => uptoBulkEntry x + uptoBulkEntries r
def uptoBulkEntry {H : Type} : Lit × DataW H → Nat
  | (.string bytes, d) => bytes.length + uptoBulk d + 1
  | (_, d) => uptoBulk d + 1
 end
def uptoSmall : (H : Type) → List (DataW H) → Bool := fun _ ds => decide (uptoBulkAll ds ≤ 1048576)
def OpenSpec.upto (s : _root_.Go.ChangeSpec) : _root_.Go.OpenSpec := { _root_.Go.OpenSpec.ofChange s with cond := some uptoSmall }

/-- 'laws.FnExactMaslovOf', WHERE WHAT IT READS IS OF BULK AT MOST 1048576: true; the input reads as it did. -/
def fnExactMaslovOfUptoRow : OpenClaim := { program := "ytijijnfmcmeioaa", sum := "72b1605c05d1b60cb7d0e8b8f9e5e73cdafaada7fb6879c1bd48a8ec4d1a3fad", func := "loop.example/g01228/laws.FnExactMaslovOf", spec := "fnExactMaslovOf", unfollowed := true, recurses := true, apart := false, narrowed := true }
def FnExactMaslovOfUptoSaid : Prop := fnExactMaslovOfUptoRow.holds Try.pinned (OpenSpec.upto fnExactMaslovOfSpec)

/-- 'laws.FnExactRelationsOf', WHERE WHAT IT READS IS OF BULK AT MOST 1048576: true; the input reads as it did. -/
def fnExactRelationsOfUptoRow : OpenClaim := { program := "ytijijnfmcmeioaa", sum := "72b1605c05d1b60cb7d0e8b8f9e5e73cdafaada7fb6879c1bd48a8ec4d1a3fad", func := "loop.example/g01228/laws.FnExactRelationsOf", spec := "fnExactRelationsOf", unfollowed := true, recurses := true, apart := false, narrowed := true }
def FnExactRelationsOfUptoSaid : Prop := fnExactRelationsOfUptoRow.holds Try.pinned (OpenSpec.upto fnExactRelationsOfSpec)

/-- 'laws.FnExactIsSum', WHERE WHAT IT READS IS OF BULK AT MOST 1048576: true; the input reads as it did. -/
def fnExactIsSumUptoRow : OpenClaim := { program := "ytijijnfmcmeioaa", sum := "72b1605c05d1b60cb7d0e8b8f9e5e73cdafaada7fb6879c1bd48a8ec4d1a3fad", func := "loop.example/g01228/laws.FnExactIsSum", spec := "fnExactIsSum", apart := false, narrowed := true }
def FnExactIsSumUptoSaid : Prop := fnExactIsSumUptoRow.holds Try.pinned (OpenSpec.upto fnExactIsSumSpec)

/-- 'laws.FnExactLedTo', WHERE WHAT IT READS IS OF BULK AT MOST 1048576: true; the input reads as it did. -/
def fnExactLedToUptoRow : OpenClaim := { program := "ytijijnfmcmeioaa", sum := "72b1605c05d1b60cb7d0e8b8f9e5e73cdafaada7fb6879c1bd48a8ec4d1a3fad", func := "loop.example/g01228/laws.FnExactLedTo", spec := "fnExactLedTo", unfollowed := true, recurses := true, apart := false, narrowed := true }
def FnExactLedToUptoSaid : Prop := fnExactLedToUptoRow.holds Try.pinned (OpenSpec.upto fnExactLedToSpec)

/-- 'laws.FnExactCornersOf', WHERE WHAT IT READS IS OF BULK AT MOST 1048576: true; the input reads as it did. -/
def fnExactCornersOfUptoRow : OpenClaim := { program := "ytijijnfmcmeioaa", sum := "72b1605c05d1b60cb7d0e8b8f9e5e73cdafaada7fb6879c1bd48a8ec4d1a3fad", func := "loop.example/g01228/laws.FnExactCornersOf", spec := "fnExactCornersOf", unfollowed := true, recurses := true, apart := false, narrowed := true }
def FnExactCornersOfUptoSaid : Prop := fnExactCornersOfUptoRow.holds Try.pinned (OpenSpec.upto fnExactCornersOfSpec)

/-- 'laws.FnExactCountCusps', WHERE WHAT IT READS IS OF BULK AT MOST 1048576: true; the input reads as it did. -/
def fnExactCountCuspsUptoRow : OpenClaim := { program := "ytijijnfmcmeioaa", sum := "72b1605c05d1b60cb7d0e8b8f9e5e73cdafaada7fb6879c1bd48a8ec4d1a3fad", func := "loop.example/g01228/laws.FnExactCountCusps", spec := "fnExactCountCusps", unfollowed := true, recurses := true, apart := false, narrowed := true }
def FnExactCountCuspsUptoSaid : Prop := fnExactCountCuspsUptoRow.holds Try.pinned (OpenSpec.upto fnExactCountCuspsSpec)

/-- 'laws.FnExactIsColouring', WHERE WHAT IT READS IS OF BULK AT MOST 1048576: true; the input reads as it did. -/
def fnExactIsColouringUptoRow : OpenClaim := { program := "ytijijnfmcmeioaa", sum := "72b1605c05d1b60cb7d0e8b8f9e5e73cdafaada7fb6879c1bd48a8ec4d1a3fad", func := "loop.example/g01228/laws.FnExactIsColouring", spec := "fnExactIsColouring", unfollowed := true, recurses := true, apart := false, narrowed := true }
def FnExactIsColouringUptoSaid : Prop := fnExactIsColouringUptoRow.holds Try.pinned (OpenSpec.upto fnExactIsColouringSpec)

/-- 'laws.FnExactExchangeRows', WHERE WHAT IT READS IS OF BULK AT MOST 1048576: true; the input reads as it did. -/
def fnExactExchangeRowsUptoRow : OpenClaim := { program := "ytijijnfmcmeioaa", sum := "72b1605c05d1b60cb7d0e8b8f9e5e73cdafaada7fb6879c1bd48a8ec4d1a3fad", func := "loop.example/g01228/laws.FnExactExchangeRows", spec := "fnExactExchangeRows", unfollowed := true, recurses := true, apart := false, narrowed := true }
def FnExactExchangeRowsUptoSaid : Prop := fnExactExchangeRowsUptoRow.holds Try.pinned (OpenSpec.upto fnExactExchangeRowsSpec)

/-- 'laws.FnExactRectanglesFrom', WHERE WHAT IT READS IS OF BULK AT MOST 1048576: true; the input reads as it did. -/
def fnExactRectanglesFromUptoRow : OpenClaim := { program := "ytijijnfmcmeioaa", sum := "72b1605c05d1b60cb7d0e8b8f9e5e73cdafaada7fb6879c1bd48a8ec4d1a3fad", func := "loop.example/g01228/laws.FnExactRectanglesFrom", spec := "fnExactRectanglesFrom", unfollowed := true, recurses := true, apart := false, narrowed := true }
def FnExactRectanglesFromUptoSaid : Prop := fnExactRectanglesFromUptoRow.holds Try.pinned (OpenSpec.upto fnExactRectanglesFromSpec)

/-- 'laws.FnExactMultiplyLaurents', WHERE WHAT IT READS IS OF BULK AT MOST 1048576: true; the input reads as it did. -/
def fnExactMultiplyLaurentsUptoRow : OpenClaim := { program := "ytijijnfmcmeioaa", sum := "72b1605c05d1b60cb7d0e8b8f9e5e73cdafaada7fb6879c1bd48a8ec4d1a3fad", func := "loop.example/g01228/laws.FnExactMultiplyLaurents", spec := "fnExactMultiplyLaurents", unfollowed := true, recurses := true, apart := false, narrowed := true }
def FnExactMultiplyLaurentsUptoSaid : Prop := fnExactMultiplyLaurentsUptoRow.holds Try.pinned (OpenSpec.upto fnExactMultiplyLaurentsSpec)

/-- 'laws.FnExactEmptyRectangles', WHERE WHAT IT READS IS OF BULK AT MOST 1048576: true; the input reads as it did. -/
def fnExactEmptyRectanglesUptoRow : OpenClaim := { program := "ytijijnfmcmeioaa", sum := "72b1605c05d1b60cb7d0e8b8f9e5e73cdafaada7fb6879c1bd48a8ec4d1a3fad", func := "loop.example/g01228/laws.FnExactEmptyRectangles", spec := "fnExactEmptyRectangles", unfollowed := true, recurses := true, apart := false, narrowed := true }
def FnExactEmptyRectanglesUptoSaid : Prop := fnExactEmptyRectanglesUptoRow.holds Try.pinned (OpenSpec.upto fnExactEmptyRectanglesSpec)

end Rows
end Go.Proofs.Ytijijnfmcmeioaa
