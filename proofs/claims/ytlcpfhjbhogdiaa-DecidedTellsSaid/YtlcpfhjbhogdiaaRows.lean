/-
  No cell of these rows narrows 'for every input' (looked for: loops, veiled, ifaces, maps, wideKeys, modest, calm, conditions, laid).
  DERIVED. THE GIVEN ROWS OF THIS SEAT. 12 by the template 'for every input the law returns true; each argument reads behind the call as it read before'; 0 by the template 'total and deterministic' (their statements: YtlcpfhjbhogdiaaTotals.lean).
  GIVEN WITH THE SEED: the statements are not yours to turn. If you find one false, say at which input.
  Laid BY PROGRAM, IN A SANDBOX (cutbox-rows.mjs): the forced cells as the released guide's own fill.sh prints them over the translation 418267916b42dd3a… (all of the seat's roots in one cut). By AI agents, Wed Nov 11 2026. No macro, syntax, notation, axiom, sorry.
-/
import Derived.Test.YtlcpfhjbhogdiaaChecked
import GoSem.Claim
import GoSem.ClaimJoined
import GoSem.ClaimMapViews
import Derived.JoinedTies
import Derived.KernelRfl
namespace Go.Proofs.Ytlcpfhjbhogdiaa
/- THE CELL 'sum', in the pinned program and in every row, IS THE sha256 OF THE DUMP (.gsa) THAT YtlcpfhjbhogdiaaProg.lean LOADS. Nothing in Lean hashes anything: it is a label: what it is worth is what the hold of that sum in a sandbox is worth. -/
noncomputable def Try.pinned : Pinned := { name := "ytlcpfhjbhogdiaa", sum := "418267916b42dd3a215014126e1f4c17e69d7735298c0eb6c6ba978d8014cff4", checked := Try.checked }
namespace Rows
def none {H : Type} : Left H := { results := [], args := [] }

/-- 'breakwaterlaw16.RecordWhole': WHATEVER THE INPUT: true; the input reads as it did. -/
def recordWholeSpec : ChangeSpec := { name := "recordWhole", fn := fun _ => fun
  | [d1, d2, d3] => { results := [.lit (.bool true)], args := [d1, d2, d3] }
  | _ => none }
def recordWholeRow : OpenClaim := { program := "ytlcpfhjbhogdiaa", sum := "418267916b42dd3a215014126e1f4c17e69d7735298c0eb6c6ba978d8014cff4", func := "breakwater/breakwaterlaw16.RecordWhole", spec := "recordWhole", unfollowed := true, recurses := true, apart := false }
def RecordWholeSaid : Prop := recordWholeRow.holds Try.pinned (OpenSpec.ofChange recordWholeSpec)

/-- ITS FALSE NEIGHBOUR: 'it returns false'. Refute it at one input. -/
def recordWholeWrong : ChangeSpec := { name := "recordWhole", fn := fun _ => fun
  | [d1, d2, d3] => { results := [.lit (.bool false)], args := [d1, d2, d3] }
  | _ => none }
def RecordWholeWrongFalsely : Prop := recordWholeRow.holds Try.pinned (OpenSpec.ofChange recordWholeWrong)

/-- 'breakwaterlaw16.RecordTexts': WHATEVER THE INPUT: true; the input reads as it did. -/
def recordTextsSpec : ChangeSpec := { name := "recordTexts", fn := fun _ => fun
  | [d1, d2, d3, d4] => { results := [.lit (.bool true)], args := [d1, d2, d3, d4] }
  | _ => none }
def recordTextsRow : OpenClaim := { program := "ytlcpfhjbhogdiaa", sum := "418267916b42dd3a215014126e1f4c17e69d7735298c0eb6c6ba978d8014cff4", func := "breakwater/breakwaterlaw16.RecordTexts", spec := "recordTexts", unfollowed := true, recurses := true, apart := false }
def RecordTextsSaid : Prop := recordTextsRow.holds Try.pinned (OpenSpec.ofChange recordTextsSpec)

/-- ITS FALSE NEIGHBOUR: 'it returns false'. Refute it at one input. -/
def recordTextsWrong : ChangeSpec := { name := "recordTexts", fn := fun _ => fun
  | [d1, d2, d3, d4] => { results := [.lit (.bool false)], args := [d1, d2, d3, d4] }
  | _ => none }
def RecordTextsWrongFalsely : Prop := recordTextsRow.holds Try.pinned (OpenSpec.ofChange recordTextsWrong)

/-- 'breakwaterlaw16.RecordReads': WHATEVER THE INPUT: true; the input reads as it did. -/
def recordReadsSpec : ChangeSpec := { name := "recordReads", fn := fun _ => fun
  | [d1, d2, d3] => { results := [.lit (.bool true)], args := [d1, d2, d3] }
  | _ => none }
def recordReadsRow : OpenClaim := { program := "ytlcpfhjbhogdiaa", sum := "418267916b42dd3a215014126e1f4c17e69d7735298c0eb6c6ba978d8014cff4", func := "breakwater/breakwaterlaw16.RecordReads", spec := "recordReads", unfollowed := true, recurses := true, apart := false }
def RecordReadsSaid : Prop := recordReadsRow.holds Try.pinned (OpenSpec.ofChange recordReadsSpec)

/-- ITS FALSE NEIGHBOUR: 'it returns false'. Refute it at one input. -/
def recordReadsWrong : ChangeSpec := { name := "recordReads", fn := fun _ => fun
  | [d1, d2, d3] => { results := [.lit (.bool false)], args := [d1, d2, d3] }
  | _ => none }
def RecordReadsWrongFalsely : Prop := recordReadsRow.holds Try.pinned (OpenSpec.ofChange recordReadsWrong)

/-- 'breakwaterlaw22.FetchKnown': WHATEVER THE INPUT: true; the input reads as it did. -/
def fetchKnownSpec : ChangeSpec := { name := "fetchKnown", fn := fun _ => fun
  | [d1, d2, d3] => { results := [.lit (.bool true)], args := [d1, d2, d3] }
  | _ => none }
def fetchKnownRow : OpenClaim := { program := "ytlcpfhjbhogdiaa", sum := "418267916b42dd3a215014126e1f4c17e69d7735298c0eb6c6ba978d8014cff4", func := "breakwater/breakwaterlaw22.FetchKnown", spec := "fetchKnown", inPlace := ["internal/abi.NoEscape", "internal/bytealg.MakeNoZero"], unfollowed := true, recurses := true, apart := false }
def FetchKnownSaid : Prop := fetchKnownRow.holds Try.pinned (OpenSpec.ofChange fetchKnownSpec)

/-- ITS FALSE NEIGHBOUR: 'it returns false'. Refute it at one input. -/
def fetchKnownWrong : ChangeSpec := { name := "fetchKnown", fn := fun _ => fun
  | [d1, d2, d3] => { results := [.lit (.bool false)], args := [d1, d2, d3] }
  | _ => none }
def FetchKnownWrongFalsely : Prop := fetchKnownRow.holds Try.pinned (OpenSpec.ofChange fetchKnownWrong)

/-- 'breakwaterlaw18.BufferFits': WHATEVER THE INPUT: true; the input reads as it did. -/
def bufferFitsSpec : ChangeSpec := { name := "bufferFits", fn := fun _ => fun
  | [d1, d2, d3] => { results := [.lit (.bool true)], args := [d1, d2, d3] }
  | _ => none }
def bufferFitsRow : OpenClaim := { program := "ytlcpfhjbhogdiaa", sum := "418267916b42dd3a215014126e1f4c17e69d7735298c0eb6c6ba978d8014cff4", func := "breakwater/breakwaterlaw18.BufferFits", spec := "bufferFits", inPlace := ["slices.overlaps[breakwater/api.Block]"], unfollowed := true, recurses := true, apart := false }
def BufferFitsSaid : Prop := bufferFitsRow.holds Try.pinned (OpenSpec.ofChange bufferFitsSpec)

/-- ITS FALSE NEIGHBOUR: 'it returns false'. Refute it at one input. -/
def bufferFitsWrong : ChangeSpec := { name := "bufferFits", fn := fun _ => fun
  | [d1, d2, d3] => { results := [.lit (.bool false)], args := [d1, d2, d3] }
  | _ => none }
def BufferFitsWrongFalsely : Prop := bufferFitsRow.holds Try.pinned (OpenSpec.ofChange bufferFitsWrong)

/-- 'breakwaterlaw18.BufferPut': WHATEVER THE INPUT: true; the input reads as it did. -/
def bufferPutSpec : ChangeSpec := { name := "bufferPut", fn := fun _ => fun
  | [d1, d2, d3, d4] => { results := [.lit (.bool true)], args := [d1, d2, d3, d4] }
  | _ => none }
def bufferPutRow : OpenClaim := { program := "ytlcpfhjbhogdiaa", sum := "418267916b42dd3a215014126e1f4c17e69d7735298c0eb6c6ba978d8014cff4", func := "breakwater/breakwaterlaw18.BufferPut", spec := "bufferPut", inPlace := ["slices.overlaps[breakwater/api.Block]"], unfollowed := true, recurses := true, apart := false }
def BufferPutSaid : Prop := bufferPutRow.holds Try.pinned (OpenSpec.ofChange bufferPutSpec)

/-- ITS FALSE NEIGHBOUR: 'it returns false'. Refute it at one input. -/
def bufferPutWrong : ChangeSpec := { name := "bufferPut", fn := fun _ => fun
  | [d1, d2, d3, d4] => { results := [.lit (.bool false)], args := [d1, d2, d3, d4] }
  | _ => none }
def BufferPutWrongFalsely : Prop := bufferPutRow.holds Try.pinned (OpenSpec.ofChange bufferPutWrong)

/-- 'breakwaterlaw12.DecidedBack': WHATEVER THE INPUT: true; the input reads as it did. -/
def decidedBackSpec : ChangeSpec := { name := "decidedBack", fn := fun _ => fun
  | [d1, d2] => { results := [.lit (.bool true)], args := [d1, d2] }
  | _ => none }
def decidedBackRow : OpenClaim := { program := "ytlcpfhjbhogdiaa", sum := "418267916b42dd3a215014126e1f4c17e69d7735298c0eb6c6ba978d8014cff4", func := "breakwater/breakwaterlaw12.DecidedBack", spec := "decidedBack", apart := false }
def DecidedBackSaid : Prop := decidedBackRow.holds Try.pinned (OpenSpec.ofChange decidedBackSpec)

/-- ITS FALSE NEIGHBOUR: 'it returns false'. Refute it at one input. -/
def decidedBackWrong : ChangeSpec := { name := "decidedBack", fn := fun _ => fun
  | [d1, d2] => { results := [.lit (.bool false)], args := [d1, d2] }
  | _ => none }
def DecidedBackWrongFalsely : Prop := decidedBackRow.holds Try.pinned (OpenSpec.ofChange decidedBackWrong)

/-- 'breakwaterlaw16.RecordBack': WHATEVER THE INPUT: true; the input reads as it did. -/
def recordBackSpec : ChangeSpec := { name := "recordBack", fn := fun _ => fun
  | [d1, d2] => { results := [.lit (.bool true)], args := [d1, d2] }
  | _ => none }
def recordBackRow : OpenClaim := { program := "ytlcpfhjbhogdiaa", sum := "418267916b42dd3a215014126e1f4c17e69d7735298c0eb6c6ba978d8014cff4", func := "breakwater/breakwaterlaw16.RecordBack", spec := "recordBack", unfollowed := true, recurses := true, apart := false }
def RecordBackSaid : Prop := recordBackRow.holds Try.pinned (OpenSpec.ofChange recordBackSpec)

/-- ITS FALSE NEIGHBOUR: 'it returns false'. Refute it at one input. -/
def recordBackWrong : ChangeSpec := { name := "recordBack", fn := fun _ => fun
  | [d1, d2] => { results := [.lit (.bool false)], args := [d1, d2] }
  | _ => none }
def RecordBackWrongFalsely : Prop := recordBackRow.holds Try.pinned (OpenSpec.ofChange recordBackWrong)

/-- 'breakwaterlaw12.DecidedTells': WHATEVER THE INPUT: true; the input reads as it did. -/
def decidedTellsSpec : ChangeSpec := { name := "decidedTells", fn := fun _ => fun
  | [d1, d2, d3, d4] => { results := [.lit (.bool true)], args := [d1, d2, d3, d4] }
  | _ => none }
def decidedTellsRow : OpenClaim := { program := "ytlcpfhjbhogdiaa", sum := "418267916b42dd3a215014126e1f4c17e69d7735298c0eb6c6ba978d8014cff4", func := "breakwater/breakwaterlaw12.DecidedTells", spec := "decidedTells", apart := false }
def DecidedTellsSaid : Prop := decidedTellsRow.holds Try.pinned (OpenSpec.ofChange decidedTellsSpec)

/-- ITS FALSE NEIGHBOUR: 'it returns false'. Refute it at one input. -/
def decidedTellsWrong : ChangeSpec := { name := "decidedTells", fn := fun _ => fun
  | [d1, d2, d3, d4] => { results := [.lit (.bool false)], args := [d1, d2, d3, d4] }
  | _ => none }
def DecidedTellsWrongFalsely : Prop := decidedTellsRow.holds Try.pinned (OpenSpec.ofChange decidedTellsWrong)

/-- 'breakwaterlaw12.DecidedFront': WHATEVER THE INPUT: true; the input reads as it did. -/
def decidedFrontSpec : ChangeSpec := { name := "decidedFront", fn := fun _ => fun
  | [d1, d2] => { results := [.lit (.bool true)], args := [d1, d2] }
  | _ => none }
def decidedFrontRow : OpenClaim := { program := "ytlcpfhjbhogdiaa", sum := "418267916b42dd3a215014126e1f4c17e69d7735298c0eb6c6ba978d8014cff4", func := "breakwater/breakwaterlaw12.DecidedFront", spec := "decidedFront", apart := false }
def DecidedFrontSaid : Prop := decidedFrontRow.holds Try.pinned (OpenSpec.ofChange decidedFrontSpec)

/-- ITS FALSE NEIGHBOUR: 'it returns false'. Refute it at one input. -/
def decidedFrontWrong : ChangeSpec := { name := "decidedFront", fn := fun _ => fun
  | [d1, d2] => { results := [.lit (.bool false)], args := [d1, d2] }
  | _ => none }
def DecidedFrontWrongFalsely : Prop := decidedFrontRow.holds Try.pinned (OpenSpec.ofChange decidedFrontWrong)

/-- 'breakwaterlaw22.FetchTells': WHATEVER THE INPUT: true; the input reads as it did. -/
def fetchTellsSpec : ChangeSpec := { name := "fetchTells", fn := fun _ => fun
  | [d1, d2, d3, d4, d5, d6] => { results := [.lit (.bool true)], args := [d1, d2, d3, d4, d5, d6] }
  | _ => none }
def fetchTellsRow : OpenClaim := { program := "ytlcpfhjbhogdiaa", sum := "418267916b42dd3a215014126e1f4c17e69d7735298c0eb6c6ba978d8014cff4", func := "breakwater/breakwaterlaw22.FetchTells", spec := "fetchTells", inPlace := ["internal/abi.NoEscape", "internal/bytealg.MakeNoZero"], unfollowed := true, recurses := true, apart := false }
def FetchTellsSaid : Prop := fetchTellsRow.holds Try.pinned (OpenSpec.ofChange fetchTellsSpec)

/-- ITS FALSE NEIGHBOUR: 'it returns false'. Refute it at one input. -/
def fetchTellsWrong : ChangeSpec := { name := "fetchTells", fn := fun _ => fun
  | [d1, d2, d3, d4, d5, d6] => { results := [.lit (.bool false)], args := [d1, d2, d3, d4, d5, d6] }
  | _ => none }
def FetchTellsWrongFalsely : Prop := fetchTellsRow.holds Try.pinned (OpenSpec.ofChange fetchTellsWrong)

/-- 'breakwaterlaw22.FetchStands': WHATEVER THE INPUT: true; the input reads as it did. -/
def fetchStandsSpec : ChangeSpec := { name := "fetchStands", fn := fun _ => fun
  | [d1, d2, d3, d4] => { results := [.lit (.bool true)], args := [d1, d2, d3, d4] }
  | _ => none }
def fetchStandsRow : OpenClaim := { program := "ytlcpfhjbhogdiaa", sum := "418267916b42dd3a215014126e1f4c17e69d7735298c0eb6c6ba978d8014cff4", func := "breakwater/breakwaterlaw22.FetchStands", spec := "fetchStands", inPlace := ["internal/abi.NoEscape", "internal/bytealg.MakeNoZero"], unfollowed := true, recurses := true, apart := false }
def FetchStandsSaid : Prop := fetchStandsRow.holds Try.pinned (OpenSpec.ofChange fetchStandsSpec)

/-- ITS FALSE NEIGHBOUR: 'it returns false'. Refute it at one input. -/
def fetchStandsWrong : ChangeSpec := { name := "fetchStands", fn := fun _ => fun
  | [d1, d2, d3, d4] => { results := [.lit (.bool false)], args := [d1, d2, d3, d4] }
  | _ => none }
def FetchStandsWrongFalsely : Prop := fetchStandsRow.holds Try.pinned (OpenSpec.ofChange fetchStandsWrong)

/- THE SECOND FORM. 'bulk': how many values and letters a reading holds, each counted each time it is reached (what is shared counts as often as it is met; a slice's spare places count too). A statement '..UptoSaid' is the law's where the arguments, and the package variables that the reading takes, are together of bulk at most 1048576: NARROWER than '..Said'. Prove '..Said' where nothing that the law and all that it calls make is longer than what came in: it says more and counts as full. Else prove '..UptoSaid'. A law counts once. -/
mutual
def uptoBulk {H : Type} : DataW H → Nat
  | .lit (.string bytes) => bytes.length + 1
  | .lit _ => 1
  | .nil => 1
  | .ptr d => uptoBulk d + 1
  | .slice elems spare => uptoBulkAll elems + uptoBulkAll spare + 1
  | .agg parts => uptoBulkAll parts + 1
  | .iface _ d => uptoBulk d + 1
  | .map entries => uptoBulkEntries entries + 1
  | .held _ => 1
def uptoBulkAll {H : Type} : List (DataW H) → Nat
  | [] => 0
  | d :: r => uptoBulk d + uptoBulkAll r
def uptoBulkEntries {H : Type} : List (Lit × DataW H) → Nat
  | [] => 0
  | x :: r => uptoBulkEntry x + uptoBulkEntries r
def uptoBulkEntry {H : Type} : Lit × DataW H → Nat
  | (.string bytes, d) => bytes.length + uptoBulk d + 1
  | (_, d) => uptoBulk d + 1
 end
def uptoSmall : (H : Type) → List (DataW H) → Bool := fun _ ds => decide (uptoBulkAll ds ≤ 1048576)
def OpenSpec.upto (s : _root_.Go.ChangeSpec) : _root_.Go.OpenSpec := { _root_.Go.OpenSpec.ofChange s with cond := some uptoSmall }

/-- 'breakwaterlaw16.RecordWhole', WHERE WHAT IT READS IS OF BULK AT MOST 1048576: true; the input reads as it did. -/
def recordWholeUptoRow : OpenClaim := { program := "ytlcpfhjbhogdiaa", sum := "418267916b42dd3a215014126e1f4c17e69d7735298c0eb6c6ba978d8014cff4", func := "breakwater/breakwaterlaw16.RecordWhole", spec := "recordWhole", unfollowed := true, recurses := true, apart := false, narrowed := true }
def RecordWholeUptoSaid : Prop := recordWholeUptoRow.holds Try.pinned (OpenSpec.upto recordWholeSpec)

/-- 'breakwaterlaw16.RecordTexts', WHERE WHAT IT READS IS OF BULK AT MOST 1048576: true; the input reads as it did. -/
def recordTextsUptoRow : OpenClaim := { program := "ytlcpfhjbhogdiaa", sum := "418267916b42dd3a215014126e1f4c17e69d7735298c0eb6c6ba978d8014cff4", func := "breakwater/breakwaterlaw16.RecordTexts", spec := "recordTexts", unfollowed := true, recurses := true, apart := false, narrowed := true }
def RecordTextsUptoSaid : Prop := recordTextsUptoRow.holds Try.pinned (OpenSpec.upto recordTextsSpec)

/-- 'breakwaterlaw16.RecordReads', WHERE WHAT IT READS IS OF BULK AT MOST 1048576: true; the input reads as it did. -/
def recordReadsUptoRow : OpenClaim := { program := "ytlcpfhjbhogdiaa", sum := "418267916b42dd3a215014126e1f4c17e69d7735298c0eb6c6ba978d8014cff4", func := "breakwater/breakwaterlaw16.RecordReads", spec := "recordReads", unfollowed := true, recurses := true, apart := false, narrowed := true }
def RecordReadsUptoSaid : Prop := recordReadsUptoRow.holds Try.pinned (OpenSpec.upto recordReadsSpec)

/-- 'breakwaterlaw22.FetchKnown', WHERE WHAT IT READS IS OF BULK AT MOST 1048576: true; the input reads as it did. -/
def fetchKnownUptoRow : OpenClaim := { program := "ytlcpfhjbhogdiaa", sum := "418267916b42dd3a215014126e1f4c17e69d7735298c0eb6c6ba978d8014cff4", func := "breakwater/breakwaterlaw22.FetchKnown", spec := "fetchKnown", inPlace := ["internal/abi.NoEscape", "internal/bytealg.MakeNoZero"], unfollowed := true, recurses := true, apart := false, narrowed := true }
def FetchKnownUptoSaid : Prop := fetchKnownUptoRow.holds Try.pinned (OpenSpec.upto fetchKnownSpec)

/-- 'breakwaterlaw18.BufferFits', WHERE WHAT IT READS IS OF BULK AT MOST 1048576: true; the input reads as it did. -/
def bufferFitsUptoRow : OpenClaim := { program := "ytlcpfhjbhogdiaa", sum := "418267916b42dd3a215014126e1f4c17e69d7735298c0eb6c6ba978d8014cff4", func := "breakwater/breakwaterlaw18.BufferFits", spec := "bufferFits", inPlace := ["slices.overlaps[breakwater/api.Block]"], unfollowed := true, recurses := true, apart := false, narrowed := true }
def BufferFitsUptoSaid : Prop := bufferFitsUptoRow.holds Try.pinned (OpenSpec.upto bufferFitsSpec)

/-- 'breakwaterlaw18.BufferPut', WHERE WHAT IT READS IS OF BULK AT MOST 1048576: true; the input reads as it did. -/
def bufferPutUptoRow : OpenClaim := { program := "ytlcpfhjbhogdiaa", sum := "418267916b42dd3a215014126e1f4c17e69d7735298c0eb6c6ba978d8014cff4", func := "breakwater/breakwaterlaw18.BufferPut", spec := "bufferPut", inPlace := ["slices.overlaps[breakwater/api.Block]"], unfollowed := true, recurses := true, apart := false, narrowed := true }
def BufferPutUptoSaid : Prop := bufferPutUptoRow.holds Try.pinned (OpenSpec.upto bufferPutSpec)

/-- 'breakwaterlaw12.DecidedBack', WHERE WHAT IT READS IS OF BULK AT MOST 1048576: true; the input reads as it did. -/
def decidedBackUptoRow : OpenClaim := { program := "ytlcpfhjbhogdiaa", sum := "418267916b42dd3a215014126e1f4c17e69d7735298c0eb6c6ba978d8014cff4", func := "breakwater/breakwaterlaw12.DecidedBack", spec := "decidedBack", apart := false, narrowed := true }
def DecidedBackUptoSaid : Prop := decidedBackUptoRow.holds Try.pinned (OpenSpec.upto decidedBackSpec)

/-- 'breakwaterlaw16.RecordBack', WHERE WHAT IT READS IS OF BULK AT MOST 1048576: true; the input reads as it did. -/
def recordBackUptoRow : OpenClaim := { program := "ytlcpfhjbhogdiaa", sum := "418267916b42dd3a215014126e1f4c17e69d7735298c0eb6c6ba978d8014cff4", func := "breakwater/breakwaterlaw16.RecordBack", spec := "recordBack", unfollowed := true, recurses := true, apart := false, narrowed := true }
def RecordBackUptoSaid : Prop := recordBackUptoRow.holds Try.pinned (OpenSpec.upto recordBackSpec)

/-- 'breakwaterlaw12.DecidedTells', WHERE WHAT IT READS IS OF BULK AT MOST 1048576: true; the input reads as it did. -/
def decidedTellsUptoRow : OpenClaim := { program := "ytlcpfhjbhogdiaa", sum := "418267916b42dd3a215014126e1f4c17e69d7735298c0eb6c6ba978d8014cff4", func := "breakwater/breakwaterlaw12.DecidedTells", spec := "decidedTells", apart := false, narrowed := true }
def DecidedTellsUptoSaid : Prop := decidedTellsUptoRow.holds Try.pinned (OpenSpec.upto decidedTellsSpec)

/-- 'breakwaterlaw12.DecidedFront', WHERE WHAT IT READS IS OF BULK AT MOST 1048576: true; the input reads as it did. -/
def decidedFrontUptoRow : OpenClaim := { program := "ytlcpfhjbhogdiaa", sum := "418267916b42dd3a215014126e1f4c17e69d7735298c0eb6c6ba978d8014cff4", func := "breakwater/breakwaterlaw12.DecidedFront", spec := "decidedFront", apart := false, narrowed := true }
def DecidedFrontUptoSaid : Prop := decidedFrontUptoRow.holds Try.pinned (OpenSpec.upto decidedFrontSpec)

/-- 'breakwaterlaw22.FetchTells', WHERE WHAT IT READS IS OF BULK AT MOST 1048576: true; the input reads as it did. -/
def fetchTellsUptoRow : OpenClaim := { program := "ytlcpfhjbhogdiaa", sum := "418267916b42dd3a215014126e1f4c17e69d7735298c0eb6c6ba978d8014cff4", func := "breakwater/breakwaterlaw22.FetchTells", spec := "fetchTells", inPlace := ["internal/abi.NoEscape", "internal/bytealg.MakeNoZero"], unfollowed := true, recurses := true, apart := false, narrowed := true }
def FetchTellsUptoSaid : Prop := fetchTellsUptoRow.holds Try.pinned (OpenSpec.upto fetchTellsSpec)

/-- 'breakwaterlaw22.FetchStands', WHERE WHAT IT READS IS OF BULK AT MOST 1048576: true; the input reads as it did. -/
def fetchStandsUptoRow : OpenClaim := { program := "ytlcpfhjbhogdiaa", sum := "418267916b42dd3a215014126e1f4c17e69d7735298c0eb6c6ba978d8014cff4", func := "breakwater/breakwaterlaw22.FetchStands", spec := "fetchStands", inPlace := ["internal/abi.NoEscape", "internal/bytealg.MakeNoZero"], unfollowed := true, recurses := true, apart := false, narrowed := true }
def FetchStandsUptoSaid : Prop := fetchStandsUptoRow.holds Try.pinned (OpenSpec.upto fetchStandsSpec)

end Rows
end Go.Proofs.Ytlcpfhjbhogdiaa
