/-
  No cell of these rows narrows 'for every input' (looked for: loops, veiled, ifaces, maps, wideKeys, modest, calm, conditions, laid).
  DERIVED. THE GIVEN ROWS OF THIS SEAT. 12 by the template 'for every input the law returns true; each argument reads behind the call as it read before'; 0 by the template 'total and deterministic' (their statements: YtanekcndpkagiaaTotals.lean).
  GIVEN WITH THE SEED: the statements are not yours to turn. If you find one false, say at which input.
  Laid BY PROGRAM, IN A SANDBOX (cutbox-rows.mjs): the forced cells as the released guide's own fill.sh prints them over the translation a132639a4a6052ca… (all of the seat's roots in one cut). By AI agents, Wed Nov 11 2026. No macro, syntax, notation, axiom, sorry.
-/
import Derived.Test.YtanekcndpkagiaaChecked
import GoSem.Claim
import GoSem.ClaimJoined
import GoSem.ClaimMapViews
import Derived.JoinedTies
import Derived.KernelRfl
namespace Go.Proofs.Ytanekcndpkagiaa
/- THE CELL 'sum', in the pinned program and in every row, IS THE sha256 OF THE DUMP (.gsa) THAT YtanekcndpkagiaaProg.lean LOADS. Nothing in Lean hashes anything: it is a label: what it is worth is what the hold of that sum in a sandbox is worth. -/
noncomputable def Try.pinned : Pinned := { name := "ytanekcndpkagiaa", sum := "a132639a4a6052cac81fadc756eeec8d416ded200726b105b5e8b4c74e61d783", checked := Try.checked }
namespace Rows
def none {H : Type} : Left H := { results := [], args := [] }

/-- 'breakwaterlaw22.FetchKnown': WHATEVER THE INPUT: true; the input reads as it did. -/
def fetchKnownSpec : ChangeSpec := { name := "fetchKnown", fn := fun _ => fun
  | [d1, d2, d3] => { results := [.lit (.bool true)], args := [d1, d2, d3] }
  | _ => none }
def fetchKnownRow : OpenClaim := { program := "ytanekcndpkagiaa", sum := "a132639a4a6052cac81fadc756eeec8d416ded200726b105b5e8b4c74e61d783", func := "breakwater/breakwaterlaw22.FetchKnown", spec := "fetchKnown", inPlace := ["internal/abi.NoEscape", "internal/bytealg.MakeNoZero"], unfollowed := true, recurses := true, apart := false }
def FetchKnownSaid : Prop := fetchKnownRow.holds Try.pinned (OpenSpec.ofChange fetchKnownSpec)

/-- ITS FALSE NEIGHBOUR: 'it returns false'. Refute it at one input. -/
def fetchKnownWrong : ChangeSpec := { name := "fetchKnown", fn := fun _ => fun
  | [d1, d2, d3] => { results := [.lit (.bool false)], args := [d1, d2, d3] }
  | _ => none }
def FetchKnownWrongFalsely : Prop := fetchKnownRow.holds Try.pinned (OpenSpec.ofChange fetchKnownWrong)

/-- 'breakwaterlaw18.BufferFits': WHATEVER THE INPUT: true; the input reads as it did. -/
def bufferFitsSpec : ChangeSpec := { name := "bufferFits", fn := fun _ => fun
  | [d1, d2, d3] => { results := [.lit (.bool true)], args := [d1, d2, d3] }
  | _ => none }
def bufferFitsRow : OpenClaim := { program := "ytanekcndpkagiaa", sum := "a132639a4a6052cac81fadc756eeec8d416ded200726b105b5e8b4c74e61d783", func := "breakwater/breakwaterlaw18.BufferFits", spec := "bufferFits", inPlace := ["slices.overlaps[breakwater/api.Block]"], unfollowed := true, recurses := true, apart := false }
def BufferFitsSaid : Prop := bufferFitsRow.holds Try.pinned (OpenSpec.ofChange bufferFitsSpec)

/-- ITS FALSE NEIGHBOUR: 'it returns false'. Refute it at one input. -/
def bufferFitsWrong : ChangeSpec := { name := "bufferFits", fn := fun _ => fun
  | [d1, d2, d3] => { results := [.lit (.bool false)], args := [d1, d2, d3] }
  | _ => none }
def BufferFitsWrongFalsely : Prop := bufferFitsRow.holds Try.pinned (OpenSpec.ofChange bufferFitsWrong)

/-- 'breakwaterlaw18.BufferPut': WHATEVER THE INPUT: true; the input reads as it did. -/
def bufferPutSpec : ChangeSpec := { name := "bufferPut", fn := fun _ => fun
  | [d1, d2, d3, d4] => { results := [.lit (.bool true)], args := [d1, d2, d3, d4] }
  | _ => none }
def bufferPutRow : OpenClaim := { program := "ytanekcndpkagiaa", sum := "a132639a4a6052cac81fadc756eeec8d416ded200726b105b5e8b4c74e61d783", func := "breakwater/breakwaterlaw18.BufferPut", spec := "bufferPut", inPlace := ["slices.overlaps[breakwater/api.Block]"], unfollowed := true, recurses := true, apart := false }
def BufferPutSaid : Prop := bufferPutRow.holds Try.pinned (OpenSpec.ofChange bufferPutSpec)

/-- ITS FALSE NEIGHBOUR: 'it returns false'. Refute it at one input. -/
def bufferPutWrong : ChangeSpec := { name := "bufferPut", fn := fun _ => fun
  | [d1, d2, d3, d4] => { results := [.lit (.bool false)], args := [d1, d2, d3, d4] }
  | _ => none }
def BufferPutWrongFalsely : Prop := bufferPutRow.holds Try.pinned (OpenSpec.ofChange bufferPutWrong)

/-- 'breakwaterlaw18.BufferPieces': WHATEVER THE INPUT: true; the input reads as it did. -/
def bufferPiecesSpec : ChangeSpec := { name := "bufferPieces", fn := fun _ => fun
  | [d1, d2] => { results := [.lit (.bool true)], args := [d1, d2] }
  | _ => none }
def bufferPiecesRow : OpenClaim := { program := "ytanekcndpkagiaa", sum := "a132639a4a6052cac81fadc756eeec8d416ded200726b105b5e8b4c74e61d783", func := "breakwater/breakwaterlaw18.BufferPieces", spec := "bufferPieces", inPlace := ["slices.overlaps[breakwater/api.Block]", "internal/abi.NoEscape", "internal/bytealg.MakeNoZero"], unfollowed := true, recurses := true, apart := false }
def BufferPiecesSaid : Prop := bufferPiecesRow.holds Try.pinned (OpenSpec.ofChange bufferPiecesSpec)

/-- ITS FALSE NEIGHBOUR: 'it returns false'. Refute it at one input. -/
def bufferPiecesWrong : ChangeSpec := { name := "bufferPieces", fn := fun _ => fun
  | [d1, d2] => { results := [.lit (.bool false)], args := [d1, d2] }
  | _ => none }
def BufferPiecesWrongFalsely : Prop := bufferPiecesRow.holds Try.pinned (OpenSpec.ofChange bufferPiecesWrong)

/-- 'breakwaterlaw18.BufferCells': WHATEVER THE INPUT: true; the input reads as it did. -/
def bufferCellsSpec : ChangeSpec := { name := "bufferCells", fn := fun _ => fun
  | [d1, d2] => { results := [.lit (.bool true)], args := [d1, d2] }
  | _ => none }
def bufferCellsRow : OpenClaim := { program := "ytanekcndpkagiaa", sum := "a132639a4a6052cac81fadc756eeec8d416ded200726b105b5e8b4c74e61d783", func := "breakwater/breakwaterlaw18.BufferCells", spec := "bufferCells", inPlace := ["slices.overlaps[breakwater/api.Block]"], unfollowed := true, recurses := true, apart := false }
def BufferCellsSaid : Prop := bufferCellsRow.holds Try.pinned (OpenSpec.ofChange bufferCellsSpec)

/-- ITS FALSE NEIGHBOUR: 'it returns false'. Refute it at one input. -/
def bufferCellsWrong : ChangeSpec := { name := "bufferCells", fn := fun _ => fun
  | [d1, d2] => { results := [.lit (.bool false)], args := [d1, d2] }
  | _ => none }
def BufferCellsWrongFalsely : Prop := bufferCellsRow.holds Try.pinned (OpenSpec.ofChange bufferCellsWrong)

/-- 'breakwaterlaw19.CommitTells': WHATEVER THE INPUT: true; the input reads as it did. -/
def commitTellsSpec : ChangeSpec := { name := "commitTells", fn := fun _ => fun
  | [d1, d2, d3, d4, d5, d6, d7] => { results := [.lit (.bool true)], args := [d1, d2, d3, d4, d5, d6, d7] }
  | _ => none }
def commitTellsRow : OpenClaim := { program := "ytanekcndpkagiaa", sum := "a132639a4a6052cac81fadc756eeec8d416ded200726b105b5e8b4c74e61d783", func := "breakwater/breakwaterlaw19.CommitTells", spec := "commitTells", unfollowed := true, recurses := true, apart := false }
def CommitTellsSaid : Prop := commitTellsRow.holds Try.pinned (OpenSpec.ofChange commitTellsSpec)

/-- ITS FALSE NEIGHBOUR: 'it returns false'. Refute it at one input. -/
def commitTellsWrong : ChangeSpec := { name := "commitTells", fn := fun _ => fun
  | [d1, d2, d3, d4, d5, d6, d7] => { results := [.lit (.bool false)], args := [d1, d2, d3, d4, d5, d6, d7] }
  | _ => none }
def CommitTellsWrongFalsely : Prop := commitTellsRow.holds Try.pinned (OpenSpec.ofChange commitTellsWrong)

/-- 'breakwaterlaw19.CommitFits': WHATEVER THE INPUT: true; the input reads as it did. -/
def commitFitsSpec : ChangeSpec := { name := "commitFits", fn := fun _ => fun
  | [d1, d2, d3, d4, d5] => { results := [.lit (.bool true)], args := [d1, d2, d3, d4, d5] }
  | _ => none }
def commitFitsRow : OpenClaim := { program := "ytanekcndpkagiaa", sum := "a132639a4a6052cac81fadc756eeec8d416ded200726b105b5e8b4c74e61d783", func := "breakwater/breakwaterlaw19.CommitFits", spec := "commitFits", unfollowed := true, recurses := true, apart := false }
def CommitFitsSaid : Prop := commitFitsRow.holds Try.pinned (OpenSpec.ofChange commitFitsSpec)

/-- ITS FALSE NEIGHBOUR: 'it returns false'. Refute it at one input. -/
def commitFitsWrong : ChangeSpec := { name := "commitFits", fn := fun _ => fun
  | [d1, d2, d3, d4, d5] => { results := [.lit (.bool false)], args := [d1, d2, d3, d4, d5] }
  | _ => none }
def CommitFitsWrongFalsely : Prop := commitFitsRow.holds Try.pinned (OpenSpec.ofChange commitFitsWrong)

/-- 'breakwaterlaw19.CommitActs': WHATEVER THE INPUT: true; the input reads as it did. -/
def commitActsSpec : ChangeSpec := { name := "commitActs", fn := fun _ => fun
  | [d1, d2, d3, d4, d5, d6] => { results := [.lit (.bool true)], args := [d1, d2, d3, d4, d5, d6] }
  | _ => none }
def commitActsRow : OpenClaim := { program := "ytanekcndpkagiaa", sum := "a132639a4a6052cac81fadc756eeec8d416ded200726b105b5e8b4c74e61d783", func := "breakwater/breakwaterlaw19.CommitActs", spec := "commitActs", unfollowed := true, recurses := true, apart := false }
def CommitActsSaid : Prop := commitActsRow.holds Try.pinned (OpenSpec.ofChange commitActsSpec)

/-- ITS FALSE NEIGHBOUR: 'it returns false'. Refute it at one input. -/
def commitActsWrong : ChangeSpec := { name := "commitActs", fn := fun _ => fun
  | [d1, d2, d3, d4, d5, d6] => { results := [.lit (.bool false)], args := [d1, d2, d3, d4, d5, d6] }
  | _ => none }
def CommitActsWrongFalsely : Prop := commitActsRow.holds Try.pinned (OpenSpec.ofChange commitActsWrong)

/-- 'breakwaterlaw19.CommitWhole': WHATEVER THE INPUT: true; the input reads as it did. -/
def commitWholeSpec : ChangeSpec := { name := "commitWhole", fn := fun _ => fun
  | [d1, d2, d3, d4, d5, d6] => { results := [.lit (.bool true)], args := [d1, d2, d3, d4, d5, d6] }
  | _ => none }
def commitWholeRow : OpenClaim := { program := "ytanekcndpkagiaa", sum := "a132639a4a6052cac81fadc756eeec8d416ded200726b105b5e8b4c74e61d783", func := "breakwater/breakwaterlaw19.CommitWhole", spec := "commitWhole", unfollowed := true, recurses := true, apart := false }
def CommitWholeSaid : Prop := commitWholeRow.holds Try.pinned (OpenSpec.ofChange commitWholeSpec)

/-- ITS FALSE NEIGHBOUR: 'it returns false'. Refute it at one input. -/
def commitWholeWrong : ChangeSpec := { name := "commitWhole", fn := fun _ => fun
  | [d1, d2, d3, d4, d5, d6] => { results := [.lit (.bool false)], args := [d1, d2, d3, d4, d5, d6] }
  | _ => none }
def CommitWholeWrongFalsely : Prop := commitWholeRow.holds Try.pinned (OpenSpec.ofChange commitWholeWrong)

/-- 'breakwaterlaw22.FetchTells': WHATEVER THE INPUT: true; the input reads as it did. -/
def fetchTellsSpec : ChangeSpec := { name := "fetchTells", fn := fun _ => fun
  | [d1, d2, d3, d4, d5, d6] => { results := [.lit (.bool true)], args := [d1, d2, d3, d4, d5, d6] }
  | _ => none }
def fetchTellsRow : OpenClaim := { program := "ytanekcndpkagiaa", sum := "a132639a4a6052cac81fadc756eeec8d416ded200726b105b5e8b4c74e61d783", func := "breakwater/breakwaterlaw22.FetchTells", spec := "fetchTells", inPlace := ["internal/abi.NoEscape", "internal/bytealg.MakeNoZero"], unfollowed := true, recurses := true, apart := false }
def FetchTellsSaid : Prop := fetchTellsRow.holds Try.pinned (OpenSpec.ofChange fetchTellsSpec)

/-- ITS FALSE NEIGHBOUR: 'it returns false'. Refute it at one input. -/
def fetchTellsWrong : ChangeSpec := { name := "fetchTells", fn := fun _ => fun
  | [d1, d2, d3, d4, d5, d6] => { results := [.lit (.bool false)], args := [d1, d2, d3, d4, d5, d6] }
  | _ => none }
def FetchTellsWrongFalsely : Prop := fetchTellsRow.holds Try.pinned (OpenSpec.ofChange fetchTellsWrong)

/-- 'breakwaterlaw22.FetchStands': WHATEVER THE INPUT: true; the input reads as it did. -/
def fetchStandsSpec : ChangeSpec := { name := "fetchStands", fn := fun _ => fun
  | [d1, d2, d3, d4] => { results := [.lit (.bool true)], args := [d1, d2, d3, d4] }
  | _ => none }
def fetchStandsRow : OpenClaim := { program := "ytanekcndpkagiaa", sum := "a132639a4a6052cac81fadc756eeec8d416ded200726b105b5e8b4c74e61d783", func := "breakwater/breakwaterlaw22.FetchStands", spec := "fetchStands", inPlace := ["internal/abi.NoEscape", "internal/bytealg.MakeNoZero"], unfollowed := true, recurses := true, apart := false }
def FetchStandsSaid : Prop := fetchStandsRow.holds Try.pinned (OpenSpec.ofChange fetchStandsSpec)

/-- ITS FALSE NEIGHBOUR: 'it returns false'. Refute it at one input. -/
def fetchStandsWrong : ChangeSpec := { name := "fetchStands", fn := fun _ => fun
  | [d1, d2, d3, d4] => { results := [.lit (.bool false)], args := [d1, d2, d3, d4] }
  | _ => none }
def FetchStandsWrongFalsely : Prop := fetchStandsRow.holds Try.pinned (OpenSpec.ofChange fetchStandsWrong)

/-- 'breakwaterlaw05.SuperTells': WHATEVER THE INPUT: true; the input reads as it did. -/
def superTellsSpec : ChangeSpec := { name := "superTells", fn := fun _ => fun
  | [d1, d2, d3] => { results := [.lit (.bool true)], args := [d1, d2, d3] }
  | _ => none }
def superTellsRow : OpenClaim := { program := "ytanekcndpkagiaa", sum := "a132639a4a6052cac81fadc756eeec8d416ded200726b105b5e8b4c74e61d783", func := "breakwater/breakwaterlaw05.SuperTells", spec := "superTells", unfollowed := true, recurses := true, apart := false }
def SuperTellsSaid : Prop := superTellsRow.holds Try.pinned (OpenSpec.ofChange superTellsSpec)

/-- ITS FALSE NEIGHBOUR: 'it returns false'. Refute it at one input. -/
def superTellsWrong : ChangeSpec := { name := "superTells", fn := fun _ => fun
  | [d1, d2, d3] => { results := [.lit (.bool false)], args := [d1, d2, d3] }
  | _ => none }
def SuperTellsWrongFalsely : Prop := superTellsRow.holds Try.pinned (OpenSpec.ofChange superTellsWrong)

/- THE SECOND FORM. 'bulk': how many values and letters a reading holds, each counted each time it is reached (what is shared counts as often as it is met; a slice's spare places count too). A statement '..UptoSaid' is the law's where the arguments, and the package variables that the reading takes, are together of bulk at most 1048576: NARROWER than '..Said'. Prove '..Said' where nothing that the law and all that it calls make is longer than what came in: it says more and counts as full. Else prove '..UptoSaid'. A law counts once. -/
mutual
def uptoBulk {H : Type} : DataW H → Nat
  | .lit (.string bytes) => bytes.length + 1
  | .lit _ => 1
  | .nil => 1
  | .ptr d => uptoBulk d + 1
  | .slice elems spare => uptoBulkAll elems + uptoBulkAll spare + 1
  | .agg parts => uptoBulkAll parts + 1
  | .iface _ d => uptoBulk d + 1
  | .map entries => uptoBulkEntries entries + 1
  | .held _ => 1
def uptoBulkAll {H : Type} : List (DataW H) → Nat
  | [] => 0
  | d :: r => uptoBulk d + uptoBulkAll r
def uptoBulkEntries {H : Type} : List (Lit × DataW H) → Nat
  | [] => 0
  | x :: r => uptoBulkEntry x + uptoBulkEntries r
def uptoBulkEntry {H : Type} : Lit × DataW H → Nat
  | (.string bytes, d) => bytes.length + uptoBulk d + 1
  | (_, d) => uptoBulk d + 1
 end
def uptoSmall : (H : Type) → List (DataW H) → Bool := fun _ ds => decide (uptoBulkAll ds ≤ 1048576)
def OpenSpec.upto (s : _root_.Go.ChangeSpec) : _root_.Go.OpenSpec := { _root_.Go.OpenSpec.ofChange s with cond := some uptoSmall }

/-- 'breakwaterlaw22.FetchKnown', WHERE WHAT IT READS IS OF BULK AT MOST 1048576: true; the input reads as it did. -/
def fetchKnownUptoRow : OpenClaim := { program := "ytanekcndpkagiaa", sum := "a132639a4a6052cac81fadc756eeec8d416ded200726b105b5e8b4c74e61d783", func := "breakwater/breakwaterlaw22.FetchKnown", spec := "fetchKnown", inPlace := ["internal/abi.NoEscape", "internal/bytealg.MakeNoZero"], unfollowed := true, recurses := true, apart := false, narrowed := true }
def FetchKnownUptoSaid : Prop := fetchKnownUptoRow.holds Try.pinned (OpenSpec.upto fetchKnownSpec)

/-- 'breakwaterlaw18.BufferFits', WHERE WHAT IT READS IS OF BULK AT MOST 1048576: true; the input reads as it did. -/
def bufferFitsUptoRow : OpenClaim := { program := "ytanekcndpkagiaa", sum := "a132639a4a6052cac81fadc756eeec8d416ded200726b105b5e8b4c74e61d783", func := "breakwater/breakwaterlaw18.BufferFits", spec := "bufferFits", inPlace := ["slices.overlaps[breakwater/api.Block]"], unfollowed := true, recurses := true, apart := false, narrowed := true }
def BufferFitsUptoSaid : Prop := bufferFitsUptoRow.holds Try.pinned (OpenSpec.upto bufferFitsSpec)

/-- 'breakwaterlaw18.BufferPut', WHERE WHAT IT READS IS OF BULK AT MOST 1048576: true; the input reads as it did. -/
def bufferPutUptoRow : OpenClaim := { program := "ytanekcndpkagiaa", sum := "a132639a4a6052cac81fadc756eeec8d416ded200726b105b5e8b4c74e61d783", func := "breakwater/breakwaterlaw18.BufferPut", spec := "bufferPut", inPlace := ["slices.overlaps[breakwater/api.Block]"], unfollowed := true, recurses := true, apart := false, narrowed := true }
def BufferPutUptoSaid : Prop := bufferPutUptoRow.holds Try.pinned (OpenSpec.upto bufferPutSpec)

/-- 'breakwaterlaw18.BufferPieces', WHERE WHAT IT READS IS OF BULK AT MOST 1048576: true; the input reads as it did. -/
def bufferPiecesUptoRow : OpenClaim := { program := "ytanekcndpkagiaa", sum := "a132639a4a6052cac81fadc756eeec8d416ded200726b105b5e8b4c74e61d783", func := "breakwater/breakwaterlaw18.BufferPieces", spec := "bufferPieces", inPlace := ["slices.overlaps[breakwater/api.Block]", "internal/abi.NoEscape", "internal/bytealg.MakeNoZero"], unfollowed := true, recurses := true, apart := false, narrowed := true }
def BufferPiecesUptoSaid : Prop := bufferPiecesUptoRow.holds Try.pinned (OpenSpec.upto bufferPiecesSpec)

/-- 'breakwaterlaw18.BufferCells', WHERE WHAT IT READS IS OF BULK AT MOST 1048576: true; the input reads as it did. -/
def bufferCellsUptoRow : OpenClaim := { program := "ytanekcndpkagiaa", sum := "a132639a4a6052cac81fadc756eeec8d416ded200726b105b5e8b4c74e61d783", func := "breakwater/breakwaterlaw18.BufferCells", spec := "bufferCells", inPlace := ["slices.overlaps[breakwater/api.Block]"], unfollowed := true, recurses := true, apart := false, narrowed := true }
def BufferCellsUptoSaid : Prop := bufferCellsUptoRow.holds Try.pinned (OpenSpec.upto bufferCellsSpec)

/-- 'breakwaterlaw19.CommitTells', WHERE WHAT IT READS IS OF BULK AT MOST 1048576: true; the input reads as it did. -/
def commitTellsUptoRow : OpenClaim := { program := "ytanekcndpkagiaa", sum := "a132639a4a6052cac81fadc756eeec8d416ded200726b105b5e8b4c74e61d783", func := "breakwater/breakwaterlaw19.CommitTells", spec := "commitTells", unfollowed := true, recurses := true, apart := false, narrowed := true }
def CommitTellsUptoSaid : Prop := commitTellsUptoRow.holds Try.pinned (OpenSpec.upto commitTellsSpec)

/-- 'breakwaterlaw19.CommitFits', WHERE WHAT IT READS IS OF BULK AT MOST 1048576: true; the input reads as it did. -/
def commitFitsUptoRow : OpenClaim := { program := "ytanekcndpkagiaa", sum := "a132639a4a6052cac81fadc756eeec8d416ded200726b105b5e8b4c74e61d783", func := "breakwater/breakwaterlaw19.CommitFits", spec := "commitFits", unfollowed := true, recurses := true, apart := false, narrowed := true }
def CommitFitsUptoSaid : Prop := commitFitsUptoRow.holds Try.pinned (OpenSpec.upto commitFitsSpec)

/-- 'breakwaterlaw19.CommitActs', WHERE WHAT IT READS IS OF BULK AT MOST 1048576: true; the input reads as it did. -/
def commitActsUptoRow : OpenClaim := { program := "ytanekcndpkagiaa", sum := "a132639a4a6052cac81fadc756eeec8d416ded200726b105b5e8b4c74e61d783", func := "breakwater/breakwaterlaw19.CommitActs", spec := "commitActs", unfollowed := true, recurses := true, apart := false, narrowed := true }
def CommitActsUptoSaid : Prop := commitActsUptoRow.holds Try.pinned (OpenSpec.upto commitActsSpec)

/-- 'breakwaterlaw19.CommitWhole', WHERE WHAT IT READS IS OF BULK AT MOST 1048576: true; the input reads as it did. -/
def commitWholeUptoRow : OpenClaim := { program := "ytanekcndpkagiaa", sum := "a132639a4a6052cac81fadc756eeec8d416ded200726b105b5e8b4c74e61d783", func := "breakwater/breakwaterlaw19.CommitWhole", spec := "commitWhole", unfollowed := true, recurses := true, apart := false, narrowed := true }
def CommitWholeUptoSaid : Prop := commitWholeUptoRow.holds Try.pinned (OpenSpec.upto commitWholeSpec)

/-- 'breakwaterlaw22.FetchTells', WHERE WHAT IT READS IS OF BULK AT MOST 1048576: true; the input reads as it did. -/
def fetchTellsUptoRow : OpenClaim := { program := "ytanekcndpkagiaa", sum := "a132639a4a6052cac81fadc756eeec8d416ded200726b105b5e8b4c74e61d783", func := "breakwater/breakwaterlaw22.FetchTells", spec := "fetchTells", inPlace := ["internal/abi.NoEscape", "internal/bytealg.MakeNoZero"], unfollowed := true, recurses := true, apart := false, narrowed := true }
def FetchTellsUptoSaid : Prop := fetchTellsUptoRow.holds Try.pinned (OpenSpec.upto fetchTellsSpec)

/-- 'breakwaterlaw22.FetchStands', WHERE WHAT IT READS IS OF BULK AT MOST 1048576: true; the input reads as it did. -/
def fetchStandsUptoRow : OpenClaim := { program := "ytanekcndpkagiaa", sum := "a132639a4a6052cac81fadc756eeec8d416ded200726b105b5e8b4c74e61d783", func := "breakwater/breakwaterlaw22.FetchStands", spec := "fetchStands", inPlace := ["internal/abi.NoEscape", "internal/bytealg.MakeNoZero"], unfollowed := true, recurses := true, apart := false, narrowed := true }
def FetchStandsUptoSaid : Prop := fetchStandsUptoRow.holds Try.pinned (OpenSpec.upto fetchStandsSpec)

/-- 'breakwaterlaw05.SuperTells', WHERE WHAT IT READS IS OF BULK AT MOST 1048576: true; the input reads as it did. -/
def superTellsUptoRow : OpenClaim := { program := "ytanekcndpkagiaa", sum := "a132639a4a6052cac81fadc756eeec8d416ded200726b105b5e8b4c74e61d783", func := "breakwater/breakwaterlaw05.SuperTells", spec := "superTells", unfollowed := true, recurses := true, apart := false, narrowed := true }
def SuperTellsUptoSaid : Prop := superTellsUptoRow.holds Try.pinned (OpenSpec.upto superTellsSpec)

end Rows
end Go.Proofs.Ytanekcndpkagiaa
