/-
  No cell of these rows narrows 'for every input' (looked for: loops, veiled, ifaces, maps, wideKeys, modest, calm, conditions, laid).
  DERIVED. THE GIVEN ROWS OF THIS SEAT. 11 by the template 'for every input the law returns true; each argument reads behind the call as it read before'; 0 by the template 'total and deterministic' (their statements: YtflimioplnbopaaTotals.lean).
  GIVEN WITH THE SEED: the statements are not yours to turn. If you find one false, say at which input.
  Laid BY PROGRAM, IN A SANDBOX (cutbox-rows.mjs): the forced cells as the released guide's own fill.sh prints them over the translation 527131ffc565c64e… (all of the seat's roots in one cut). By AI agents, Wed Nov 11 2026. No macro, syntax, notation, axiom, sorry.
-/
import Derived.Test.YtflimioplnbopaaChecked
import GoSem.Claim
import GoSem.ClaimJoined
import GoSem.ClaimMapViews
import Derived.JoinedTies
import Derived.KernelRfl
namespace Go.Proofs.Ytflimioplnbopaa
/- THE CELL 'sum', in the pinned program and in every row, IS THE sha256 OF THE DUMP (.gsa) THAT YtflimioplnbopaaProg.lean LOADS. Nothing in Lean hashes anything: it is a label: what it is worth is what the hold of that sum in a sandbox is worth. -/
noncomputable def Try.pinned : Pinned := { name := "ytflimioplnbopaa", sum := "527131ffc565c64ef60591038853891752b7c7852c5a94708466d22f727e3d77", checked := Try.checked }
namespace Rows
def none {H : Type} : Left H := { results := [], args := [] }

/-- 'breakwaterlaw19.CommitWhole': WHATEVER THE INPUT: true; the input reads as it did. -/
def commitWholeSpec : ChangeSpec := { name := "commitWhole", fn := fun _ => fun
  | [d1, d2, d3, d4, d5, d6] => { results := [.lit (.bool true)], args := [d1, d2, d3, d4, d5, d6] }
  | _ => none }
def commitWholeRow : OpenClaim := { program := "ytflimioplnbopaa", sum := "527131ffc565c64ef60591038853891752b7c7852c5a94708466d22f727e3d77", func := "breakwater/breakwaterlaw19.CommitWhole", spec := "commitWhole", unfollowed := true, recurses := true, apart := false }
def CommitWholeSaid : Prop := commitWholeRow.holds Try.pinned (OpenSpec.ofChange commitWholeSpec)

/-- ITS FALSE NEIGHBOUR: 'it returns false'. Refute it at one input. -/
def commitWholeWrong : ChangeSpec := { name := "commitWhole", fn := fun _ => fun
  | [d1, d2, d3, d4, d5, d6] => { results := [.lit (.bool false)], args := [d1, d2, d3, d4, d5, d6] }
  | _ => none }
def CommitWholeWrongFalsely : Prop := commitWholeRow.holds Try.pinned (OpenSpec.ofChange commitWholeWrong)

/-- 'breakwaterlaw22.FetchStands': WHATEVER THE INPUT: true; the input reads as it did. -/
def fetchStandsSpec : ChangeSpec := { name := "fetchStands", fn := fun _ => fun
  | [d1, d2, d3, d4] => { results := [.lit (.bool true)], args := [d1, d2, d3, d4] }
  | _ => none }
def fetchStandsRow : OpenClaim := { program := "ytflimioplnbopaa", sum := "527131ffc565c64ef60591038853891752b7c7852c5a94708466d22f727e3d77", func := "breakwater/breakwaterlaw22.FetchStands", spec := "fetchStands", inPlace := ["internal/abi.NoEscape", "internal/bytealg.MakeNoZero"], unfollowed := true, recurses := true, apart := false }
def FetchStandsSaid : Prop := fetchStandsRow.holds Try.pinned (OpenSpec.ofChange fetchStandsSpec)

/-- ITS FALSE NEIGHBOUR: 'it returns false'. Refute it at one input. -/
def fetchStandsWrong : ChangeSpec := { name := "fetchStands", fn := fun _ => fun
  | [d1, d2, d3, d4] => { results := [.lit (.bool false)], args := [d1, d2, d3, d4] }
  | _ => none }
def FetchStandsWrongFalsely : Prop := fetchStandsRow.holds Try.pinned (OpenSpec.ofChange fetchStandsWrong)

/-- 'breakwaterlaw05.SuperFormat': WHATEVER THE INPUT: true; the input reads as it did. -/
def superFormatSpec : ChangeSpec := { name := "superFormat", fn := fun _ => fun
  | [d1, d2] => { results := [.lit (.bool true)], args := [d1, d2] }
  | _ => none }
def superFormatRow : OpenClaim := { program := "ytflimioplnbopaa", sum := "527131ffc565c64ef60591038853891752b7c7852c5a94708466d22f727e3d77", func := "breakwater/breakwaterlaw05.SuperFormat", spec := "superFormat", unfollowed := true, recurses := true, apart := false }
def SuperFormatSaid : Prop := superFormatRow.holds Try.pinned (OpenSpec.ofChange superFormatSpec)

/-- ITS FALSE NEIGHBOUR: 'it returns false'. Refute it at one input. -/
def superFormatWrong : ChangeSpec := { name := "superFormat", fn := fun _ => fun
  | [d1, d2] => { results := [.lit (.bool false)], args := [d1, d2] }
  | _ => none }
def SuperFormatWrongFalsely : Prop := superFormatRow.holds Try.pinned (OpenSpec.ofChange superFormatWrong)

/-- 'breakwaterlaw05.SuperBack': WHATEVER THE INPUT: true; the input reads as it did. -/
def superBackSpec : ChangeSpec := { name := "superBack", fn := fun _ => fun
  | [d1, d2, d3] => { results := [.lit (.bool true)], args := [d1, d2, d3] }
  | _ => none }
def superBackRow : OpenClaim := { program := "ytflimioplnbopaa", sum := "527131ffc565c64ef60591038853891752b7c7852c5a94708466d22f727e3d77", func := "breakwater/breakwaterlaw05.SuperBack", spec := "superBack", unfollowed := true, recurses := true, apart := false }
def SuperBackSaid : Prop := superBackRow.holds Try.pinned (OpenSpec.ofChange superBackSpec)

/-- ITS FALSE NEIGHBOUR: 'it returns false'. Refute it at one input. -/
def superBackWrong : ChangeSpec := { name := "superBack", fn := fun _ => fun
  | [d1, d2, d3] => { results := [.lit (.bool false)], args := [d1, d2, d3] }
  | _ => none }
def SuperBackWrongFalsely : Prop := superBackRow.holds Try.pinned (OpenSpec.ofChange superBackWrong)

/-- 'breakwaterlaw05.SuperHarm': WHATEVER THE INPUT: true; the input reads as it did. -/
def superHarmSpec : ChangeSpec := { name := "superHarm", fn := fun _ => fun
  | [d1, d2, d3] => { results := [.lit (.bool true)], args := [d1, d2, d3] }
  | _ => none }
def superHarmRow : OpenClaim := { program := "ytflimioplnbopaa", sum := "527131ffc565c64ef60591038853891752b7c7852c5a94708466d22f727e3d77", func := "breakwater/breakwaterlaw05.SuperHarm", spec := "superHarm", unfollowed := true, recurses := true, apart := false }
def SuperHarmSaid : Prop := superHarmRow.holds Try.pinned (OpenSpec.ofChange superHarmSpec)

/-- ITS FALSE NEIGHBOUR: 'it returns false'. Refute it at one input. -/
def superHarmWrong : ChangeSpec := { name := "superHarm", fn := fun _ => fun
  | [d1, d2, d3] => { results := [.lit (.bool false)], args := [d1, d2, d3] }
  | _ => none }
def SuperHarmWrongFalsely : Prop := superHarmRow.holds Try.pinned (OpenSpec.ofChange superHarmWrong)

/-- 'breakwaterlaw17.ScanBack': WHATEVER THE INPUT: true; the input reads as it did. -/
def scanBackSpec : ChangeSpec := { name := "scanBack", fn := fun _ => fun
  | [d1, d2, d3, d4, d5, d6, d7] => { results := [.lit (.bool true)], args := [d1, d2, d3, d4, d5, d6, d7] }
  | _ => none }
def scanBackRow : OpenClaim := { program := "ytflimioplnbopaa", sum := "527131ffc565c64ef60591038853891752b7c7852c5a94708466d22f727e3d77", func := "breakwater/breakwaterlaw17.ScanBack", spec := "scanBack", unfollowed := true, recurses := true, apart := false }
def ScanBackSaid : Prop := scanBackRow.holds Try.pinned (OpenSpec.ofChange scanBackSpec)

/-- ITS FALSE NEIGHBOUR: 'it returns false'. Refute it at one input. -/
def scanBackWrong : ChangeSpec := { name := "scanBack", fn := fun _ => fun
  | [d1, d2, d3, d4, d5, d6, d7] => { results := [.lit (.bool false)], args := [d1, d2, d3, d4, d5, d6, d7] }
  | _ => none }
def ScanBackWrongFalsely : Prop := scanBackRow.holds Try.pinned (OpenSpec.ofChange scanBackWrong)

/-- 'breakwaterlaw17.ScanApart': WHATEVER THE INPUT: true; the input reads as it did. -/
def scanApartSpec : ChangeSpec := { name := "scanApart", fn := fun _ => fun
  | [d1, d2, d3, d4, d5, d6] => { results := [.lit (.bool true)], args := [d1, d2, d3, d4, d5, d6] }
  | _ => none }
def scanApartRow : OpenClaim := { program := "ytflimioplnbopaa", sum := "527131ffc565c64ef60591038853891752b7c7852c5a94708466d22f727e3d77", func := "breakwater/breakwaterlaw17.ScanApart", spec := "scanApart", unfollowed := true, recurses := true, apart := false }
def ScanApartSaid : Prop := scanApartRow.holds Try.pinned (OpenSpec.ofChange scanApartSpec)

/-- ITS FALSE NEIGHBOUR: 'it returns false'. Refute it at one input. -/
def scanApartWrong : ChangeSpec := { name := "scanApart", fn := fun _ => fun
  | [d1, d2, d3, d4, d5, d6] => { results := [.lit (.bool false)], args := [d1, d2, d3, d4, d5, d6] }
  | _ => none }
def ScanApartWrongFalsely : Prop := scanApartRow.holds Try.pinned (OpenSpec.ofChange scanApartWrong)

/-- 'breakwaterlaw11.TableStays': WHATEVER THE INPUT: true; the input reads as it did. -/
def tableStaysSpec : ChangeSpec := { name := "tableStays", fn := fun _ => fun
  | [d1, d2] => { results := [.lit (.bool true)], args := [d1, d2] }
  | _ => none }
def tableStaysRow : OpenClaim := { program := "ytflimioplnbopaa", sum := "527131ffc565c64ef60591038853891752b7c7852c5a94708466d22f727e3d77", func := "breakwater/breakwaterlaw11.TableStays", spec := "tableStays", unfollowed := true, recurses := true, apart := false }
def TableStaysSaid : Prop := tableStaysRow.holds Try.pinned (OpenSpec.ofChange tableStaysSpec)

/-- ITS FALSE NEIGHBOUR: 'it returns false'. Refute it at one input. -/
def tableStaysWrong : ChangeSpec := { name := "tableStays", fn := fun _ => fun
  | [d1, d2] => { results := [.lit (.bool false)], args := [d1, d2] }
  | _ => none }
def TableStaysWrongFalsely : Prop := tableStaysRow.holds Try.pinned (OpenSpec.ofChange tableStaysWrong)

/-- 'breakwaterlaw11.TableQueues': WHATEVER THE INPUT: true; the input reads as it did. -/
def tableQueuesSpec : ChangeSpec := { name := "tableQueues", fn := fun _ => fun
  | [d1, d2, d3] => { results := [.lit (.bool true)], args := [d1, d2, d3] }
  | _ => none }
def tableQueuesRow : OpenClaim := { program := "ytflimioplnbopaa", sum := "527131ffc565c64ef60591038853891752b7c7852c5a94708466d22f727e3d77", func := "breakwater/breakwaterlaw11.TableQueues", spec := "tableQueues", unfollowed := true, recurses := true, apart := false }
def TableQueuesSaid : Prop := tableQueuesRow.holds Try.pinned (OpenSpec.ofChange tableQueuesSpec)

/-- ITS FALSE NEIGHBOUR: 'it returns false'. Refute it at one input. -/
def tableQueuesWrong : ChangeSpec := { name := "tableQueues", fn := fun _ => fun
  | [d1, d2, d3] => { results := [.lit (.bool false)], args := [d1, d2, d3] }
  | _ => none }
def TableQueuesWrongFalsely : Prop := tableQueuesRow.holds Try.pinned (OpenSpec.ofChange tableQueuesWrong)

/-- 'breakwaterlaw11.TableOthers': WHATEVER THE INPUT: true; the input reads as it did. -/
def tableOthersSpec : ChangeSpec := { name := "tableOthers", fn := fun _ => fun
  | [d1, d2, d3] => { results := [.lit (.bool true)], args := [d1, d2, d3] }
  | _ => none }
def tableOthersRow : OpenClaim := { program := "ytflimioplnbopaa", sum := "527131ffc565c64ef60591038853891752b7c7852c5a94708466d22f727e3d77", func := "breakwater/breakwaterlaw11.TableOthers", spec := "tableOthers", unfollowed := true, recurses := true, apart := false }
def TableOthersSaid : Prop := tableOthersRow.holds Try.pinned (OpenSpec.ofChange tableOthersSpec)

/-- ITS FALSE NEIGHBOUR: 'it returns false'. Refute it at one input. -/
def tableOthersWrong : ChangeSpec := { name := "tableOthers", fn := fun _ => fun
  | [d1, d2, d3] => { results := [.lit (.bool false)], args := [d1, d2, d3] }
  | _ => none }
def TableOthersWrongFalsely : Prop := tableOthersRow.holds Try.pinned (OpenSpec.ofChange tableOthersWrong)

/-- 'breakwaterlaw25.LockTells': WHATEVER THE INPUT: true; the input reads as it did. -/
def lockTellsSpec : ChangeSpec := { name := "lockTells", fn := fun _ => fun
  | [d1, d2, d3, d4, d5, d6] => { results := [.lit (.bool true)], args := [d1, d2, d3, d4, d5, d6] }
  | _ => none }
def lockTellsRow : OpenClaim := { program := "ytflimioplnbopaa", sum := "527131ffc565c64ef60591038853891752b7c7852c5a94708466d22f727e3d77", func := "breakwater/breakwaterlaw25.LockTells", spec := "lockTells", unfollowed := true, recurses := true, apart := false }
def LockTellsSaid : Prop := lockTellsRow.holds Try.pinned (OpenSpec.ofChange lockTellsSpec)

/-- ITS FALSE NEIGHBOUR: 'it returns false'. Refute it at one input. -/
def lockTellsWrong : ChangeSpec := { name := "lockTells", fn := fun _ => fun
  | [d1, d2, d3, d4, d5, d6] => { results := [.lit (.bool false)], args := [d1, d2, d3, d4, d5, d6] }
  | _ => none }
def LockTellsWrongFalsely : Prop := lockTellsRow.holds Try.pinned (OpenSpec.ofChange lockTellsWrong)

/- THE SECOND FORM. 'bulk': how many values and letters a reading holds, each counted each time it is reached (what is shared counts as often as it is met; a slice's spare places count too). A statement '..UptoSaid' is the law's where the arguments, and the package variables that the reading takes, are together of bulk at most 1048576: NARROWER than '..Said'. Prove '..Said' where nothing that the law and all that it calls make is longer than what came in: it says more and counts as full. Else prove '..UptoSaid'. A law counts once. -/
mutual
def uptoBulk {H : Type} : DataW H → Nat
  | .lit (.string bytes) => bytes.length + 1
  | .lit _ => 1
  | .nil => 1
  | .ptr d => uptoBulk d + 1
  | .slice elems spare => uptoBulkAll elems + uptoBulkAll spare + 1
  | .agg parts => uptoBulkAll parts + 1
  | .iface _ d => uptoBulk d + 1
  | .map entries => uptoBulkEntries entries + 1
  | .held _ => 1
def uptoBulkAll {H : Type} : List (DataW H) → Nat
  | [] => 0
  | d :: r => uptoBulk d + uptoBulkAll r
def uptoBulkEntries {H : Type} : List (Lit × DataW H) → Nat
  | [] => 0
  | x :: r => uptoBulkEntry x + uptoBulkEntries r
def uptoBulkEntry {H : Type} : Lit × DataW H → Nat
  | (.string bytes, d) => bytes.length + uptoBulk d + 1
  | (_, d) => uptoBulk d + 1
 end
def uptoSmall : (H : Type) → List (DataW H) → Bool := fun _ ds => decide (uptoBulkAll ds ≤ 1048576)
def OpenSpec.upto (s : _root_.Go.ChangeSpec) : _root_.Go.OpenSpec := { _root_.Go.OpenSpec.ofChange s with cond := some uptoSmall }

/-- 'breakwaterlaw19.CommitWhole', WHERE WHAT IT READS IS OF BULK AT MOST 1048576: true; the input reads as it did. -/
def commitWholeUptoRow : OpenClaim := { program := "ytflimioplnbopaa", sum := "527131ffc565c64ef60591038853891752b7c7852c5a94708466d22f727e3d77", func := "breakwater/breakwaterlaw19.CommitWhole", spec := "commitWhole", unfollowed := true, recurses := true, apart := false, narrowed := true }
def CommitWholeUptoSaid : Prop := commitWholeUptoRow.holds Try.pinned (OpenSpec.upto commitWholeSpec)

/-- 'breakwaterlaw22.FetchStands', WHERE WHAT IT READS IS OF BULK AT MOST 1048576: true; the input reads as it did. -/
def fetchStandsUptoRow : OpenClaim := { program := "ytflimioplnbopaa", sum := "527131ffc565c64ef60591038853891752b7c7852c5a94708466d22f727e3d77", func := "breakwater/breakwaterlaw22.FetchStands", spec := "fetchStands", inPlace := ["internal/abi.NoEscape", "internal/bytealg.MakeNoZero"], unfollowed := true, recurses := true, apart := false, narrowed := true }
def FetchStandsUptoSaid : Prop := fetchStandsUptoRow.holds Try.pinned (OpenSpec.upto fetchStandsSpec)

/-- 'breakwaterlaw05.SuperFormat', WHERE WHAT IT READS IS OF BULK AT MOST 1048576: true; the input reads as it did. -/
def superFormatUptoRow : OpenClaim := { program := "ytflimioplnbopaa", sum := "527131ffc565c64ef60591038853891752b7c7852c5a94708466d22f727e3d77", func := "breakwater/breakwaterlaw05.SuperFormat", spec := "superFormat", unfollowed := true, recurses := true, apart := false, narrowed := true }
def SuperFormatUptoSaid : Prop := superFormatUptoRow.holds Try.pinned (OpenSpec.upto superFormatSpec)

/-- 'breakwaterlaw05.SuperBack', WHERE WHAT IT READS IS OF BULK AT MOST 1048576: true; the input reads as it did. -/
def superBackUptoRow : OpenClaim := { program := "ytflimioplnbopaa", sum := "527131ffc565c64ef60591038853891752b7c7852c5a94708466d22f727e3d77", func := "breakwater/breakwaterlaw05.SuperBack", spec := "superBack", unfollowed := true, recurses := true, apart := false, narrowed := true }
def SuperBackUptoSaid : Prop := superBackUptoRow.holds Try.pinned (OpenSpec.upto superBackSpec)

/-- 'breakwaterlaw05.SuperHarm', WHERE WHAT IT READS IS OF BULK AT MOST 1048576: true; the input reads as it did. -/
def superHarmUptoRow : OpenClaim := { program := "ytflimioplnbopaa", sum := "527131ffc565c64ef60591038853891752b7c7852c5a94708466d22f727e3d77", func := "breakwater/breakwaterlaw05.SuperHarm", spec := "superHarm", unfollowed := true, recurses := true, apart := false, narrowed := true }
def SuperHarmUptoSaid : Prop := superHarmUptoRow.holds Try.pinned (OpenSpec.upto superHarmSpec)

/-- 'breakwaterlaw17.ScanBack', WHERE WHAT IT READS IS OF BULK AT MOST 1048576: true; the input reads as it did. -/
def scanBackUptoRow : OpenClaim := { program := "ytflimioplnbopaa", sum := "527131ffc565c64ef60591038853891752b7c7852c5a94708466d22f727e3d77", func := "breakwater/breakwaterlaw17.ScanBack", spec := "scanBack", unfollowed := true, recurses := true, apart := false, narrowed := true }
def ScanBackUptoSaid : Prop := scanBackUptoRow.holds Try.pinned (OpenSpec.upto scanBackSpec)

/-- 'breakwaterlaw17.ScanApart', WHERE WHAT IT READS IS OF BULK AT MOST 1048576: true; the input reads as it did. -/
def scanApartUptoRow : OpenClaim := { program := "ytflimioplnbopaa", sum := "527131ffc565c64ef60591038853891752b7c7852c5a94708466d22f727e3d77", func := "breakwater/breakwaterlaw17.ScanApart", spec := "scanApart", unfollowed := true, recurses := true, apart := false, narrowed := true }
def ScanApartUptoSaid : Prop := scanApartUptoRow.holds Try.pinned (OpenSpec.upto scanApartSpec)

/-- 'breakwaterlaw11.TableStays', WHERE WHAT IT READS IS OF BULK AT MOST 1048576: true; the input reads as it did. -/
def tableStaysUptoRow : OpenClaim := { program := "ytflimioplnbopaa", sum := "527131ffc565c64ef60591038853891752b7c7852c5a94708466d22f727e3d77", func := "breakwater/breakwaterlaw11.TableStays", spec := "tableStays", unfollowed := true, recurses := true, apart := false, narrowed := true }
def TableStaysUptoSaid : Prop := tableStaysUptoRow.holds Try.pinned (OpenSpec.upto tableStaysSpec)

/-- 'breakwaterlaw11.TableQueues', WHERE WHAT IT READS IS OF BULK AT MOST 1048576: true; the input reads as it did. -/
def tableQueuesUptoRow : OpenClaim := { program := "ytflimioplnbopaa", sum := "527131ffc565c64ef60591038853891752b7c7852c5a94708466d22f727e3d77", func := "breakwater/breakwaterlaw11.TableQueues", spec := "tableQueues", unfollowed := true, recurses := true, apart := false, narrowed := true }
def TableQueuesUptoSaid : Prop := tableQueuesUptoRow.holds Try.pinned (OpenSpec.upto tableQueuesSpec)

/-- 'breakwaterlaw11.TableOthers', WHERE WHAT IT READS IS OF BULK AT MOST 1048576: true; the input reads as it did. -/
def tableOthersUptoRow : OpenClaim := { program := "ytflimioplnbopaa", sum := "527131ffc565c64ef60591038853891752b7c7852c5a94708466d22f727e3d77", func := "breakwater/breakwaterlaw11.TableOthers", spec := "tableOthers", unfollowed := true, recurses := true, apart := false, narrowed := true }
def TableOthersUptoSaid : Prop := tableOthersUptoRow.holds Try.pinned (OpenSpec.upto tableOthersSpec)

/-- 'breakwaterlaw25.LockTells', WHERE WHAT IT READS IS OF BULK AT MOST 1048576: true; the input reads as it did. -/
def lockTellsUptoRow : OpenClaim := { program := "ytflimioplnbopaa", sum := "527131ffc565c64ef60591038853891752b7c7852c5a94708466d22f727e3d77", func := "breakwater/breakwaterlaw25.LockTells", spec := "lockTells", unfollowed := true, recurses := true, apart := false, narrowed := true }
def LockTellsUptoSaid : Prop := lockTellsUptoRow.holds Try.pinned (OpenSpec.upto lockTellsSpec)

end Rows
end Go.Proofs.Ytflimioplnbopaa
