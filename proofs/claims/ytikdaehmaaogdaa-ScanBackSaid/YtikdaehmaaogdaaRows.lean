/-
  No cell of these rows narrows 'for every input' (looked for: loops, veiled, ifaces, maps, wideKeys, modest, calm, conditions, laid).
  DERIVED. THE GIVEN ROWS OF THIS SEAT. 4 by the template 'for every input the law returns true; each argument reads behind the call as it read before'; 0 by the template 'total and deterministic' (their statements: YtikdaehmaaogdaaTotals.lean).
  GIVEN WITH THE SEED: the statements are not yours to turn. If you find one false, say at which input.
  Laid BY PROGRAM, IN A SANDBOX (cutbox-rows.mjs): the forced cells as the released guide's own fill.sh prints them over the translation 5e42565c8a99f99b… (all of the seat's roots in one cut). By AI agents, Wed Nov 11 2026. No macro, syntax, notation, axiom, sorry.
-/
import Derived.Test.YtikdaehmaaogdaaChecked
import GoSem.Claim
import GoSem.ClaimJoined
import GoSem.ClaimMapViews
import Derived.JoinedTies
import Derived.KernelRfl
namespace Go.Proofs.Ytikdaehmaaogdaa
/- THE CELL 'sum', in the pinned program and in every row, IS THE sha256 OF THE DUMP (.gsa) THAT YtikdaehmaaogdaaProg.lean LOADS. Nothing in Lean hashes anything: it is a label: what it is worth is what the hold of that sum in a sandbox is worth. -/
noncomputable def Try.pinned : Pinned := { name := "ytikdaehmaaogdaa", sum := "5e42565c8a99f99bb06a8f17483e4951219a4ae070823b5feb61b916f877dfd6", checked := Try.checked }
namespace Rows
def none {H : Type} : Left H := { results := [], args := [] }

/-- 'breakwaterlaw21.ReplayBad': WHATEVER THE INPUT: true; the input reads as it did. -/
def replayBadSpec : ChangeSpec := { name := "replayBad", fn := fun _ => fun
  | [d1, d2, d3, d4, d5, d6] => { results := [.lit (.bool true)], args := [d1, d2, d3, d4, d5, d6] }
  | _ => none }
def replayBadRow : OpenClaim := { program := "ytikdaehmaaogdaa", sum := "5e42565c8a99f99bb06a8f17483e4951219a4ae070823b5feb61b916f877dfd6", func := "breakwater/breakwaterlaw21.ReplayBad", spec := "replayBad", unfollowed := true, recurses := true, apart := false }
def ReplayBadSaid : Prop := replayBadRow.holds Try.pinned (OpenSpec.ofChange replayBadSpec)

/-- ITS FALSE NEIGHBOUR: 'it returns false'. Refute it at one input. -/
def replayBadWrong : ChangeSpec := { name := "replayBad", fn := fun _ => fun
  | [d1, d2, d3, d4, d5, d6] => { results := [.lit (.bool false)], args := [d1, d2, d3, d4, d5, d6] }
  | _ => none }
def ReplayBadWrongFalsely : Prop := replayBadRow.holds Try.pinned (OpenSpec.ofChange replayBadWrong)

/-- 'breakwaterlaw17.ScanApart': WHATEVER THE INPUT: true; the input reads as it did. -/
def scanApartSpec : ChangeSpec := { name := "scanApart", fn := fun _ => fun
  | [d1, d2, d3, d4, d5, d6] => { results := [.lit (.bool true)], args := [d1, d2, d3, d4, d5, d6] }
  | _ => none }
def scanApartRow : OpenClaim := { program := "ytikdaehmaaogdaa", sum := "5e42565c8a99f99bb06a8f17483e4951219a4ae070823b5feb61b916f877dfd6", func := "breakwater/breakwaterlaw17.ScanApart", spec := "scanApart", unfollowed := true, recurses := true, apart := false }
def ScanApartSaid : Prop := scanApartRow.holds Try.pinned (OpenSpec.ofChange scanApartSpec)

/-- ITS FALSE NEIGHBOUR: 'it returns false'. Refute it at one input. -/
def scanApartWrong : ChangeSpec := { name := "scanApart", fn := fun _ => fun
  | [d1, d2, d3, d4, d5, d6] => { results := [.lit (.bool false)], args := [d1, d2, d3, d4, d5, d6] }
  | _ => none }
def ScanApartWrongFalsely : Prop := scanApartRow.holds Try.pinned (OpenSpec.ofChange scanApartWrong)

/-- 'breakwaterlaw17.ScanBack': WHATEVER THE INPUT: true; the input reads as it did. -/
def scanBackSpec : ChangeSpec := { name := "scanBack", fn := fun _ => fun
  | [d1, d2, d3, d4, d5, d6, d7] => { results := [.lit (.bool true)], args := [d1, d2, d3, d4, d5, d6, d7] }
  | _ => none }
def scanBackRow : OpenClaim := { program := "ytikdaehmaaogdaa", sum := "5e42565c8a99f99bb06a8f17483e4951219a4ae070823b5feb61b916f877dfd6", func := "breakwater/breakwaterlaw17.ScanBack", spec := "scanBack", unfollowed := true, recurses := true, apart := false }
def ScanBackSaid : Prop := scanBackRow.holds Try.pinned (OpenSpec.ofChange scanBackSpec)

/-- ITS FALSE NEIGHBOUR: 'it returns false'. Refute it at one input. -/
def scanBackWrong : ChangeSpec := { name := "scanBack", fn := fun _ => fun
  | [d1, d2, d3, d4, d5, d6, d7] => { results := [.lit (.bool false)], args := [d1, d2, d3, d4, d5, d6, d7] }
  | _ => none }
def ScanBackWrongFalsely : Prop := scanBackRow.holds Try.pinned (OpenSpec.ofChange scanBackWrong)

/-- 'breakwaterlaw22.FetchStands': WHATEVER THE INPUT: true; the input reads as it did. -/
def fetchStandsSpec : ChangeSpec := { name := "fetchStands", fn := fun _ => fun
  | [d1, d2, d3, d4] => { results := [.lit (.bool true)], args := [d1, d2, d3, d4] }
  | _ => none }
def fetchStandsRow : OpenClaim := { program := "ytikdaehmaaogdaa", sum := "5e42565c8a99f99bb06a8f17483e4951219a4ae070823b5feb61b916f877dfd6", func := "breakwater/breakwaterlaw22.FetchStands", spec := "fetchStands", inPlace := ["internal/abi.NoEscape", "internal/bytealg.MakeNoZero"], unfollowed := true, recurses := true, apart := false }
def FetchStandsSaid : Prop := fetchStandsRow.holds Try.pinned (OpenSpec.ofChange fetchStandsSpec)

/-- ITS FALSE NEIGHBOUR: 'it returns false'. Refute it at one input. -/
def fetchStandsWrong : ChangeSpec := { name := "fetchStands", fn := fun _ => fun
  | [d1, d2, d3, d4] => { results := [.lit (.bool false)], args := [d1, d2, d3, d4] }
  | _ => none }
def FetchStandsWrongFalsely : Prop := fetchStandsRow.holds Try.pinned (OpenSpec.ofChange fetchStandsWrong)

/- THE SECOND FORM. 'bulk': how many values and letters a reading holds, each counted each time it is reached (what is shared counts as often as it is met; a slice's spare places count too). A statement '..UptoSaid' is the law's where the arguments, and the package variables that the reading takes, are together of bulk at most 1048576: NARROWER than '..Said'. Prove '..Said' where nothing that the law and all that it calls make is longer than what came in: it says more and counts as full. Else prove '..UptoSaid'. A law counts once. -/
mutual
def uptoBulk {H : Type} : DataW H → Nat
  | .lit (.string bytes) => bytes.length + 1
  | .lit _ => 1
  | .nil => 1
  | .ptr d => uptoBulk d + 1
  | .slice elems spare => uptoBulkAll elems + uptoBulkAll spare + 1
  | .agg parts => uptoBulkAll parts + 1
  | .iface _ d => uptoBulk d + 1
  | .map entries => uptoBulkEntries entries + 1
  | .held _ => 1
def uptoBulkAll {H : Type} : List (DataW H) → Nat
  | [] => 0
  | d :: r => uptoBulk d + uptoBulkAll r
def uptoBulkEntries {H : Type} : List (Lit × DataW H) → Nat
  | [] => 0
  | x :: r => uptoBulkEntry x + uptoBulkEntries r
def uptoBulkEntry {H : Type} : Lit × DataW H → Nat
  | (.string bytes, d) => bytes.length + uptoBulk d + 1
  | (_, d) => uptoBulk d + 1
 end
def uptoSmall : (H : Type) → List (DataW H) → Bool := fun _ ds => decide (uptoBulkAll ds ≤ 1048576)
def OpenSpec.upto (s : _root_.Go.ChangeSpec) : _root_.Go.OpenSpec := { _root_.Go.OpenSpec.ofChange s with cond := some uptoSmall }

/-- 'breakwaterlaw21.ReplayBad', WHERE WHAT IT READS IS OF BULK AT MOST 1048576: true; the input reads as it did. -/
def replayBadUptoRow : OpenClaim := { program := "ytikdaehmaaogdaa", sum := "5e42565c8a99f99bb06a8f17483e4951219a4ae070823b5feb61b916f877dfd6", func := "breakwater/breakwaterlaw21.ReplayBad", spec := "replayBad", unfollowed := true, recurses := true, apart := false, narrowed := true }
def ReplayBadUptoSaid : Prop := replayBadUptoRow.holds Try.pinned (OpenSpec.upto replayBadSpec)

/-- 'breakwaterlaw17.ScanApart', WHERE WHAT IT READS IS OF BULK AT MOST 1048576: true; the input reads as it did. -/
def scanApartUptoRow : OpenClaim := { program := "ytikdaehmaaogdaa", sum := "5e42565c8a99f99bb06a8f17483e4951219a4ae070823b5feb61b916f877dfd6", func := "breakwater/breakwaterlaw17.ScanApart", spec := "scanApart", unfollowed := true, recurses := true, apart := false, narrowed := true }
def ScanApartUptoSaid : Prop := scanApartUptoRow.holds Try.pinned (OpenSpec.upto scanApartSpec)

/-- 'breakwaterlaw17.ScanBack', WHERE WHAT IT READS IS OF BULK AT MOST 1048576: true; the input reads as it did. -/
def scanBackUptoRow : OpenClaim := { program := "ytikdaehmaaogdaa", sum := "5e42565c8a99f99bb06a8f17483e4951219a4ae070823b5feb61b916f877dfd6", func := "breakwater/breakwaterlaw17.ScanBack", spec := "scanBack", unfollowed := true, recurses := true, apart := false, narrowed := true }
def ScanBackUptoSaid : Prop := scanBackUptoRow.holds Try.pinned (OpenSpec.upto scanBackSpec)

/-- 'breakwaterlaw22.FetchStands', WHERE WHAT IT READS IS OF BULK AT MOST 1048576: true; the input reads as it did. -/
def fetchStandsUptoRow : OpenClaim := { program := "ytikdaehmaaogdaa", sum := "5e42565c8a99f99bb06a8f17483e4951219a4ae070823b5feb61b916f877dfd6", func := "breakwater/breakwaterlaw22.FetchStands", spec := "fetchStands", inPlace := ["internal/abi.NoEscape", "internal/bytealg.MakeNoZero"], unfollowed := true, recurses := true, apart := false, narrowed := true }
def FetchStandsUptoSaid : Prop := fetchStandsUptoRow.holds Try.pinned (OpenSpec.upto fetchStandsSpec)

end Rows
end Go.Proofs.Ytikdaehmaaogdaa
