/-
  No cell of these rows narrows 'for every input' (looked for: loops, veiled, ifaces, maps, wideKeys, modest, calm, conditions, laid).
  DERIVED. THE GIVEN ROWS OF THIS SEAT. 8 by the template 'for every input the law returns true; each argument reads behind the call as it read before'; 0 by the template 'total and deterministic' (their statements: YtiapfhcimekdkaaTotals.lean).
  GIVEN WITH THE SEED: the statements are not yours to turn. If you find one false, say at which input.
  Laid BY PROGRAM, IN A SANDBOX (cutbox-rows.mjs): the forced cells as the released guide's own fill.sh prints them over the translation 0326b222911b9d66… (all of the seat's roots in one cut). By AI agents, Wed Nov 11 2026. No macro, syntax, notation, axiom, sorry.
-/
import Derived.Test.YtiapfhcimekdkaaChecked
import GoSem.Claim
import GoSem.ClaimJoined
import GoSem.ClaimMapViews
import Derived.JoinedTies
import Derived.KernelRfl
namespace Go.Proofs.Ytiapfhcimekdkaa
/- THE CELL 'sum', in the pinned program and in every row, IS THE sha256 OF THE DUMP (.gsa) THAT YtiapfhcimekdkaaProg.lean LOADS. Nothing in Lean hashes anything: it is a label: what it is worth is what the hold of that sum in a sandbox is worth. -/
noncomputable def Try.pinned : Pinned := { name := "ytiapfhcimekdkaa", sum := "0326b222911b9d660237ab7fb40bbe087bfd465de59ee5e458342d059fe5c3ed", checked := Try.checked }
namespace Rows
def none {H : Type} : Left H := { results := [], args := [] }

/-- 'breakwaterlaw11.TableStays': WHATEVER THE INPUT: true; the input reads as it did. -/
def tableStaysSpec : ChangeSpec := { name := "tableStays", fn := fun _ => fun
  | [d1, d2] => { results := [.lit (.bool true)], args := [d1, d2] }
  | _ => none }
def tableStaysRow : OpenClaim := { program := "ytiapfhcimekdkaa", sum := "0326b222911b9d660237ab7fb40bbe087bfd465de59ee5e458342d059fe5c3ed", func := "breakwater/breakwaterlaw11.TableStays", spec := "tableStays", unfollowed := true, recurses := true, apart := false }
def TableStaysSaid : Prop := tableStaysRow.holds Try.pinned (OpenSpec.ofChange tableStaysSpec)

/-- ITS FALSE NEIGHBOUR: 'it returns false'. Refute it at one input. -/
def tableStaysWrong : ChangeSpec := { name := "tableStays", fn := fun _ => fun
  | [d1, d2] => { results := [.lit (.bool false)], args := [d1, d2] }
  | _ => none }
def TableStaysWrongFalsely : Prop := tableStaysRow.holds Try.pinned (OpenSpec.ofChange tableStaysWrong)

/-- 'breakwaterlaw11.TableQueues': WHATEVER THE INPUT: true; the input reads as it did. -/
def tableQueuesSpec : ChangeSpec := { name := "tableQueues", fn := fun _ => fun
  | [d1, d2, d3] => { results := [.lit (.bool true)], args := [d1, d2, d3] }
  | _ => none }
def tableQueuesRow : OpenClaim := { program := "ytiapfhcimekdkaa", sum := "0326b222911b9d660237ab7fb40bbe087bfd465de59ee5e458342d059fe5c3ed", func := "breakwater/breakwaterlaw11.TableQueues", spec := "tableQueues", unfollowed := true, recurses := true, apart := false }
def TableQueuesSaid : Prop := tableQueuesRow.holds Try.pinned (OpenSpec.ofChange tableQueuesSpec)

/-- ITS FALSE NEIGHBOUR: 'it returns false'. Refute it at one input. -/
def tableQueuesWrong : ChangeSpec := { name := "tableQueues", fn := fun _ => fun
  | [d1, d2, d3] => { results := [.lit (.bool false)], args := [d1, d2, d3] }
  | _ => none }
def TableQueuesWrongFalsely : Prop := tableQueuesRow.holds Try.pinned (OpenSpec.ofChange tableQueuesWrong)

/-- 'breakwaterlaw11.TableOthers': WHATEVER THE INPUT: true; the input reads as it did. -/
def tableOthersSpec : ChangeSpec := { name := "tableOthers", fn := fun _ => fun
  | [d1, d2, d3] => { results := [.lit (.bool true)], args := [d1, d2, d3] }
  | _ => none }
def tableOthersRow : OpenClaim := { program := "ytiapfhcimekdkaa", sum := "0326b222911b9d660237ab7fb40bbe087bfd465de59ee5e458342d059fe5c3ed", func := "breakwater/breakwaterlaw11.TableOthers", spec := "tableOthers", unfollowed := true, recurses := true, apart := false }
def TableOthersSaid : Prop := tableOthersRow.holds Try.pinned (OpenSpec.ofChange tableOthersSpec)

/-- ITS FALSE NEIGHBOUR: 'it returns false'. Refute it at one input. -/
def tableOthersWrong : ChangeSpec := { name := "tableOthers", fn := fun _ => fun
  | [d1, d2, d3] => { results := [.lit (.bool false)], args := [d1, d2, d3] }
  | _ => none }
def TableOthersWrongFalsely : Prop := tableOthersRow.holds Try.pinned (OpenSpec.ofChange tableOthersWrong)

/-- 'breakwaterlaw25.LockTells': WHATEVER THE INPUT: true; the input reads as it did. -/
def lockTellsSpec : ChangeSpec := { name := "lockTells", fn := fun _ => fun
  | [d1, d2, d3, d4, d5, d6] => { results := [.lit (.bool true)], args := [d1, d2, d3, d4, d5, d6] }
  | _ => none }
def lockTellsRow : OpenClaim := { program := "ytiapfhcimekdkaa", sum := "0326b222911b9d660237ab7fb40bbe087bfd465de59ee5e458342d059fe5c3ed", func := "breakwater/breakwaterlaw25.LockTells", spec := "lockTells", unfollowed := true, recurses := true, apart := false }
def LockTellsSaid : Prop := lockTellsRow.holds Try.pinned (OpenSpec.ofChange lockTellsSpec)

/-- ITS FALSE NEIGHBOUR: 'it returns false'. Refute it at one input. -/
def lockTellsWrong : ChangeSpec := { name := "lockTells", fn := fun _ => fun
  | [d1, d2, d3, d4, d5, d6] => { results := [.lit (.bool false)], args := [d1, d2, d3, d4, d5, d6] }
  | _ => none }
def LockTellsWrongFalsely : Prop := lockTellsRow.holds Try.pinned (OpenSpec.ofChange lockTellsWrong)

/-- 'breakwaterlaw25.LockDoes': WHATEVER THE INPUT: true; the input reads as it did. -/
def lockDoesSpec : ChangeSpec := { name := "lockDoes", fn := fun _ => fun
  | [d1, d2, d3, d4, d5, d6] => { results := [.lit (.bool true)], args := [d1, d2, d3, d4, d5, d6] }
  | _ => none }
def lockDoesRow : OpenClaim := { program := "ytiapfhcimekdkaa", sum := "0326b222911b9d660237ab7fb40bbe087bfd465de59ee5e458342d059fe5c3ed", func := "breakwater/breakwaterlaw25.LockDoes", spec := "lockDoes", unfollowed := true, recurses := true, apart := false }
def LockDoesSaid : Prop := lockDoesRow.holds Try.pinned (OpenSpec.ofChange lockDoesSpec)

/-- ITS FALSE NEIGHBOUR: 'it returns false'. Refute it at one input. -/
def lockDoesWrong : ChangeSpec := { name := "lockDoes", fn := fun _ => fun
  | [d1, d2, d3, d4, d5, d6] => { results := [.lit (.bool false)], args := [d1, d2, d3, d4, d5, d6] }
  | _ => none }
def LockDoesWrongFalsely : Prop := lockDoesRow.holds Try.pinned (OpenSpec.ofChange lockDoesWrong)

/-- 'breakwaterlaw25.LockApart': WHATEVER THE INPUT: true; the input reads as it did. -/
def lockApartSpec : ChangeSpec := { name := "lockApart", fn := fun _ => fun
  | [d1, d2, d3] => { results := [.lit (.bool true)], args := [d1, d2, d3] }
  | _ => none }
def lockApartRow : OpenClaim := { program := "ytiapfhcimekdkaa", sum := "0326b222911b9d660237ab7fb40bbe087bfd465de59ee5e458342d059fe5c3ed", func := "breakwater/breakwaterlaw25.LockApart", spec := "lockApart", unfollowed := true, recurses := true, apart := false }
def LockApartSaid : Prop := lockApartRow.holds Try.pinned (OpenSpec.ofChange lockApartSpec)

/-- ITS FALSE NEIGHBOUR: 'it returns false'. Refute it at one input. -/
def lockApartWrong : ChangeSpec := { name := "lockApart", fn := fun _ => fun
  | [d1, d2, d3] => { results := [.lit (.bool false)], args := [d1, d2, d3] }
  | _ => none }
def LockApartWrongFalsely : Prop := lockApartRow.holds Try.pinned (OpenSpec.ofChange lockApartWrong)

/-- 'breakwaterlaw25.LockAsks': WHATEVER THE INPUT: true; the input reads as it did. -/
def lockAsksSpec : ChangeSpec := { name := "lockAsks", fn := fun _ => fun
  | [d1, d2, d3, d4, d5, d6, d7] => { results := [.lit (.bool true)], args := [d1, d2, d3, d4, d5, d6, d7] }
  | _ => none }
def lockAsksRow : OpenClaim := { program := "ytiapfhcimekdkaa", sum := "0326b222911b9d660237ab7fb40bbe087bfd465de59ee5e458342d059fe5c3ed", func := "breakwater/breakwaterlaw25.LockAsks", spec := "lockAsks", unfollowed := true, recurses := true, apart := false }
def LockAsksSaid : Prop := lockAsksRow.holds Try.pinned (OpenSpec.ofChange lockAsksSpec)

/-- ITS FALSE NEIGHBOUR: 'it returns false'. Refute it at one input. -/
def lockAsksWrong : ChangeSpec := { name := "lockAsks", fn := fun _ => fun
  | [d1, d2, d3, d4, d5, d6, d7] => { results := [.lit (.bool false)], args := [d1, d2, d3, d4, d5, d6, d7] }
  | _ => none }
def LockAsksWrongFalsely : Prop := lockAsksRow.holds Try.pinned (OpenSpec.ofChange lockAsksWrong)

/-- 'breakwaterlaw14.LearnOld': WHATEVER THE INPUT: true; the input reads as it did. -/
def learnOldSpec : ChangeSpec := { name := "learnOld", fn := fun _ => fun
  | [d1, d2, d3] => { results := [.lit (.bool true)], args := [d1, d2, d3] }
  | _ => none }
def learnOldRow : OpenClaim := { program := "ytiapfhcimekdkaa", sum := "0326b222911b9d660237ab7fb40bbe087bfd465de59ee5e458342d059fe5c3ed", func := "breakwater/breakwaterlaw14.LearnOld", spec := "learnOld", unfollowed := true, recurses := true, apart := false }
def LearnOldSaid : Prop := learnOldRow.holds Try.pinned (OpenSpec.ofChange learnOldSpec)

/-- ITS FALSE NEIGHBOUR: 'it returns false'. Refute it at one input. -/
def learnOldWrong : ChangeSpec := { name := "learnOld", fn := fun _ => fun
  | [d1, d2, d3] => { results := [.lit (.bool false)], args := [d1, d2, d3] }
  | _ => none }
def LearnOldWrongFalsely : Prop := learnOldRow.holds Try.pinned (OpenSpec.ofChange learnOldWrong)

/- THE SECOND FORM. 'bulk': how many values and letters a reading holds, each counted each time it is reached (what is shared counts as often as it is met; a slice's spare places count too). A statement '..UptoSaid' is the law's where the arguments, and the package variables that the reading takes, are together of bulk at most 1048576: NARROWER than '..Said'. Prove '..Said' where nothing that the law and all that it calls make is longer than what came in: it says more and counts as full. Else prove '..UptoSaid'. A law counts once. -/
mutual
def uptoBulk {H : Type} : DataW H → Nat
  | .lit (.string bytes) => bytes.length + 1
  | .lit _ => 1
  | .nil => 1
  | .ptr d => uptoBulk d + 1
  | .slice elems spare => uptoBulkAll elems + uptoBulkAll spare + 1
  | .agg parts => uptoBulkAll parts + 1
  | .iface _ d => uptoBulk d + 1
  | .map entries => uptoBulkEntries entries + 1
  | .held _ => 1
def uptoBulkAll {H : Type} : List (DataW H) → Nat
  | [] => 0
  | d :: r => uptoBulk d + uptoBulkAll r
def uptoBulkEntries {H : Type} : List (Lit × DataW H) → Nat
  | [] => 0
  | x :: r => uptoBulkEntry x + uptoBulkEntries r
def uptoBulkEntry {H : Type} : Lit × DataW H → Nat
  | (.string bytes, d) => bytes.length + uptoBulk d + 1
  | (_, d) => uptoBulk d + 1
 end
def uptoSmall : (H : Type) → List (DataW H) → Bool := fun _ ds => decide (uptoBulkAll ds ≤ 1048576)
def OpenSpec.upto (s : _root_.Go.ChangeSpec) : _root_.Go.OpenSpec := { _root_.Go.OpenSpec.ofChange s with cond := some uptoSmall }

/-- 'breakwaterlaw11.TableStays', WHERE WHAT IT READS IS OF BULK AT MOST 1048576: true; the input reads as it did. -/
def tableStaysUptoRow : OpenClaim := { program := "ytiapfhcimekdkaa", sum := "0326b222911b9d660237ab7fb40bbe087bfd465de59ee5e458342d059fe5c3ed", func := "breakwater/breakwaterlaw11.TableStays", spec := "tableStays", unfollowed := true, recurses := true, apart := false, narrowed := true }
def TableStaysUptoSaid : Prop := tableStaysUptoRow.holds Try.pinned (OpenSpec.upto tableStaysSpec)

/-- 'breakwaterlaw11.TableQueues', WHERE WHAT IT READS IS OF BULK AT MOST 1048576: true; the input reads as it did. -/
def tableQueuesUptoRow : OpenClaim := { program := "ytiapfhcimekdkaa", sum := "0326b222911b9d660237ab7fb40bbe087bfd465de59ee5e458342d059fe5c3ed", func := "breakwater/breakwaterlaw11.TableQueues", spec := "tableQueues", unfollowed := true, recurses := true, apart := false, narrowed := true }
def TableQueuesUptoSaid : Prop := tableQueuesUptoRow.holds Try.pinned (OpenSpec.upto tableQueuesSpec)

/-- 'breakwaterlaw11.TableOthers', WHERE WHAT IT READS IS OF BULK AT MOST 1048576: true; the input reads as it did. -/
def tableOthersUptoRow : OpenClaim := { program := "ytiapfhcimekdkaa", sum := "0326b222911b9d660237ab7fb40bbe087bfd465de59ee5e458342d059fe5c3ed", func := "breakwater/breakwaterlaw11.TableOthers", spec := "tableOthers", unfollowed := true, recurses := true, apart := false, narrowed := true }
def TableOthersUptoSaid : Prop := tableOthersUptoRow.holds Try.pinned (OpenSpec.upto tableOthersSpec)

/-- 'breakwaterlaw25.LockTells', WHERE WHAT IT READS IS OF BULK AT MOST 1048576: true; the input reads as it did. -/
def lockTellsUptoRow : OpenClaim := { program := "ytiapfhcimekdkaa", sum := "0326b222911b9d660237ab7fb40bbe087bfd465de59ee5e458342d059fe5c3ed", func := "breakwater/breakwaterlaw25.LockTells", spec := "lockTells", unfollowed := true, recurses := true, apart := false, narrowed := true }
def LockTellsUptoSaid : Prop := lockTellsUptoRow.holds Try.pinned (OpenSpec.upto lockTellsSpec)

/-- 'breakwaterlaw25.LockDoes', WHERE WHAT IT READS IS OF BULK AT MOST 1048576: true; the input reads as it did. -/
def lockDoesUptoRow : OpenClaim := { program := "ytiapfhcimekdkaa", sum := "0326b222911b9d660237ab7fb40bbe087bfd465de59ee5e458342d059fe5c3ed", func := "breakwater/breakwaterlaw25.LockDoes", spec := "lockDoes", unfollowed := true, recurses := true, apart := false, narrowed := true }
def LockDoesUptoSaid : Prop := lockDoesUptoRow.holds Try.pinned (OpenSpec.upto lockDoesSpec)

/-- 'breakwaterlaw25.LockApart', WHERE WHAT IT READS IS OF BULK AT MOST 1048576: true; the input reads as it did. -/
def lockApartUptoRow : OpenClaim := { program := "ytiapfhcimekdkaa", sum := "0326b222911b9d660237ab7fb40bbe087bfd465de59ee5e458342d059fe5c3ed", func := "breakwater/breakwaterlaw25.LockApart", spec := "lockApart", unfollowed := true, recurses := true, apart := false, narrowed := true }
def LockApartUptoSaid : Prop := lockApartUptoRow.holds Try.pinned (OpenSpec.upto lockApartSpec)

/-- 'breakwaterlaw25.LockAsks', WHERE WHAT IT READS IS OF BULK AT MOST 1048576: true; the input reads as it did. -/
def lockAsksUptoRow : OpenClaim := { program := "ytiapfhcimekdkaa", sum := "0326b222911b9d660237ab7fb40bbe087bfd465de59ee5e458342d059fe5c3ed", func := "breakwater/breakwaterlaw25.LockAsks", spec := "lockAsks", unfollowed := true, recurses := true, apart := false, narrowed := true }
def LockAsksUptoSaid : Prop := lockAsksUptoRow.holds Try.pinned (OpenSpec.upto lockAsksSpec)

/-- 'breakwaterlaw14.LearnOld', WHERE WHAT IT READS IS OF BULK AT MOST 1048576: true; the input reads as it did. -/
def learnOldUptoRow : OpenClaim := { program := "ytiapfhcimekdkaa", sum := "0326b222911b9d660237ab7fb40bbe087bfd465de59ee5e458342d059fe5c3ed", func := "breakwater/breakwaterlaw14.LearnOld", spec := "learnOld", unfollowed := true, recurses := true, apart := false, narrowed := true }
def LearnOldUptoSaid : Prop := learnOldUptoRow.holds Try.pinned (OpenSpec.upto learnOldSpec)

end Rows
end Go.Proofs.Ytiapfhcimekdkaa
