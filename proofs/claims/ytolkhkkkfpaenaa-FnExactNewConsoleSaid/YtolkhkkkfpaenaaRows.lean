/-
  No cell of these rows narrows 'for every input' (looked for: loops, veiled, ifaces, maps, wideKeys, modest, calm, conditions, laid).
  DERIVED. THE GIVEN ROWS OF THIS SEAT. 13 by the template 'for every input the law returns true; each argument reads behind the call as it read before'; 0 by the template 'total and deterministic' (their statements: YtolkhkkkfpaenaaTotals.lean).
  GIVEN WITH THE SEED: the statements are not yours to turn. If you find one false, say at which input.
  Laid BY PROGRAM, IN A SANDBOX (cutbox-rows.mjs): the forced cells as the released guide's own fill.sh prints them over the translation 366ea53042e8ca06… (all of the seat's roots in one cut). By AI agents, Wed Nov 11 2026. No macro, syntax, notation, axiom, sorry.
-/
import Derived.Test.YtolkhkkkfpaenaaChecked
import GoSem.Claim
import GoSem.ClaimJoined
import GoSem.ClaimMapViews
import Derived.JoinedTies
import Derived.KernelRfl
namespace Go.Proofs.Ytolkhkkkfpaenaa
/- THE CELL 'sum', in the pinned program and in every row, IS THE sha256 OF THE DUMP (.gsa) THAT YtolkhkkkfpaenaaProg.lean LOADS. Nothing in Lean hashes anything: it is a label: what it is worth is what the hold of that sum in a sandbox is worth. -/
noncomputable def Try.pinned : Pinned := { name := "ytolkhkkkfpaenaa", sum := "366ea53042e8ca0656d5b3ce332f9c96ddb3ec2f6c9f7d259d2831b951bb3105", checked := Try.checked }
namespace Rows
def none {H : Type} : Left H := { results := [], args := [] }

/-- 'laws.FnExactCutJournal': WHATEVER THE INPUT: true; the input reads as it did. -/
def fnExactCutJournalSpec : ChangeSpec := { name := "fnExactCutJournal", fn := fun _ => fun
  | [d1, d2] => { results := [.lit (.bool true)], args := [d1, d2] }
  | _ => none }
def fnExactCutJournalRow : OpenClaim := { program := "ytolkhkkkfpaenaa", sum := "366ea53042e8ca0656d5b3ce332f9c96ddb3ec2f6c9f7d259d2831b951bb3105", func := "loop.example/g00810/laws.FnExactCutJournal", spec := "fnExactCutJournal", apart := false }
def FnExactCutJournalSaid : Prop := fnExactCutJournalRow.holds Try.pinned (OpenSpec.ofChange fnExactCutJournalSpec)

/-- ITS FALSE NEIGHBOUR: 'it returns false'. Refute it at one input. -/
def fnExactCutJournalWrong : ChangeSpec := { name := "fnExactCutJournal", fn := fun _ => fun
  | [d1, d2] => { results := [.lit (.bool false)], args := [d1, d2] }
  | _ => none }
def FnExactCutJournalWrongFalsely : Prop := fnExactCutJournalRow.holds Try.pinned (OpenSpec.ofChange fnExactCutJournalWrong)

/-- 'laws.FnExactRobotOf': WHATEVER THE INPUT: true; the input reads as it did. -/
def fnExactRobotOfSpec : ChangeSpec := { name := "fnExactRobotOf", fn := fun _ => fun
  | [d] => { results := [.lit (.bool true)], args := [d] }
  | _ => none }
def fnExactRobotOfRow : OpenClaim := { program := "ytolkhkkkfpaenaa", sum := "366ea53042e8ca0656d5b3ce332f9c96ddb3ec2f6c9f7d259d2831b951bb3105", func := "loop.example/g00810/laws.FnExactRobotOf", spec := "fnExactRobotOf", apart := false }
def FnExactRobotOfSaid : Prop := fnExactRobotOfRow.holds Try.pinned (OpenSpec.ofChange fnExactRobotOfSpec)

/-- ITS FALSE NEIGHBOUR: 'it returns false'. Refute it at one input. -/
def fnExactRobotOfWrong : ChangeSpec := { name := "fnExactRobotOf", fn := fun _ => fun
  | [d] => { results := [.lit (.bool false)], args := [d] }
  | _ => none }
def FnExactRobotOfWrongFalsely : Prop := fnExactRobotOfRow.holds Try.pinned (OpenSpec.ofChange fnExactRobotOfWrong)

/-- 'laws.FnExactChecksum': WHATEVER THE INPUT: true; the input reads as it did. -/
def fnExactChecksumSpec : ChangeSpec := { name := "fnExactChecksum", fn := fun _ => fun
  | [d] => { results := [.lit (.bool true)], args := [d] }
  | _ => none }
def fnExactChecksumRow : OpenClaim := { program := "ytolkhkkkfpaenaa", sum := "366ea53042e8ca0656d5b3ce332f9c96ddb3ec2f6c9f7d259d2831b951bb3105", func := "loop.example/g00810/laws.FnExactChecksum", spec := "fnExactChecksum", apart := false }
def FnExactChecksumSaid : Prop := fnExactChecksumRow.holds Try.pinned (OpenSpec.ofChange fnExactChecksumSpec)

/-- ITS FALSE NEIGHBOUR: 'it returns false'. Refute it at one input. -/
def fnExactChecksumWrong : ChangeSpec := { name := "fnExactChecksum", fn := fun _ => fun
  | [d] => { results := [.lit (.bool false)], args := [d] }
  | _ => none }
def FnExactChecksumWrongFalsely : Prop := fnExactChecksumRow.holds Try.pinned (OpenSpec.ofChange fnExactChecksumWrong)

/-- 'laws.FnExactChunkOf': WHATEVER THE INPUT: true; the input reads as it did. -/
def fnExactChunkOfSpec : ChangeSpec := { name := "fnExactChunkOf", fn := fun _ => fun
  | [d1, d2] => { results := [.lit (.bool true)], args := [d1, d2] }
  | _ => none }
def fnExactChunkOfRow : OpenClaim := { program := "ytolkhkkkfpaenaa", sum := "366ea53042e8ca0656d5b3ce332f9c96ddb3ec2f6c9f7d259d2831b951bb3105", func := "loop.example/g00810/laws.FnExactChunkOf", spec := "fnExactChunkOf", apart := false }
def FnExactChunkOfSaid : Prop := fnExactChunkOfRow.holds Try.pinned (OpenSpec.ofChange fnExactChunkOfSpec)

/-- ITS FALSE NEIGHBOUR: 'it returns false'. Refute it at one input. -/
def fnExactChunkOfWrong : ChangeSpec := { name := "fnExactChunkOf", fn := fun _ => fun
  | [d1, d2] => { results := [.lit (.bool false)], args := [d1, d2] }
  | _ => none }
def FnExactChunkOfWrongFalsely : Prop := fnExactChunkOfRow.holds Try.pinned (OpenSpec.ofChange fnExactChunkOfWrong)

/-- 'laws.FnExactBitDistance': WHATEVER THE INPUT: true; the input reads as it did. -/
def fnExactBitDistanceSpec : ChangeSpec := { name := "fnExactBitDistance", fn := fun _ => fun
  | [d1, d2] => { results := [.lit (.bool true)], args := [d1, d2] }
  | _ => none }
def fnExactBitDistanceRow : OpenClaim := { program := "ytolkhkkkfpaenaa", sum := "366ea53042e8ca0656d5b3ce332f9c96ddb3ec2f6c9f7d259d2831b951bb3105", func := "loop.example/g00810/laws.FnExactBitDistance", spec := "fnExactBitDistance", apart := false }
def FnExactBitDistanceSaid : Prop := fnExactBitDistanceRow.holds Try.pinned (OpenSpec.ofChange fnExactBitDistanceSpec)

/-- ITS FALSE NEIGHBOUR: 'it returns false'. Refute it at one input. -/
def fnExactBitDistanceWrong : ChangeSpec := { name := "fnExactBitDistance", fn := fun _ => fun
  | [d1, d2] => { results := [.lit (.bool false)], args := [d1, d2] }
  | _ => none }
def FnExactBitDistanceWrongFalsely : Prop := fnExactBitDistanceRow.holds Try.pinned (OpenSpec.ofChange fnExactBitDistanceWrong)

/-- 'laws.FnExactIsValidPlace': WHATEVER THE INPUT: true; the input reads as it did. -/
def fnExactIsValidPlaceSpec : ChangeSpec := { name := "fnExactIsValidPlace", fn := fun _ => fun
  | [d] => { results := [.lit (.bool true)], args := [d] }
  | _ => none }
def fnExactIsValidPlaceRow : OpenClaim := { program := "ytolkhkkkfpaenaa", sum := "366ea53042e8ca0656d5b3ce332f9c96ddb3ec2f6c9f7d259d2831b951bb3105", func := "loop.example/g00810/laws.FnExactIsValidPlace", spec := "fnExactIsValidPlace", apart := false }
def FnExactIsValidPlaceSaid : Prop := fnExactIsValidPlaceRow.holds Try.pinned (OpenSpec.ofChange fnExactIsValidPlaceSpec)

/-- ITS FALSE NEIGHBOUR: 'it returns false'. Refute it at one input. -/
def fnExactIsValidPlaceWrong : ChangeSpec := { name := "fnExactIsValidPlace", fn := fun _ => fun
  | [d] => { results := [.lit (.bool false)], args := [d] }
  | _ => none }
def FnExactIsValidPlaceWrongFalsely : Prop := fnExactIsValidPlaceRow.holds Try.pinned (OpenSpec.ofChange fnExactIsValidPlaceWrong)

/-- 'laws.FnExactSameFactors': WHATEVER THE INPUT: true; the input reads as it did. -/
def fnExactSameFactorsSpec : ChangeSpec := { name := "fnExactSameFactors", fn := fun _ => fun
  | [d1, d2] => { results := [.lit (.bool true)], args := [d1, d2] }
  | _ => none }
def fnExactSameFactorsRow : OpenClaim := { program := "ytolkhkkkfpaenaa", sum := "366ea53042e8ca0656d5b3ce332f9c96ddb3ec2f6c9f7d259d2831b951bb3105", func := "loop.example/g00810/laws.FnExactSameFactors", spec := "fnExactSameFactors", apart := false }
def FnExactSameFactorsSaid : Prop := fnExactSameFactorsRow.holds Try.pinned (OpenSpec.ofChange fnExactSameFactorsSpec)

/-- ITS FALSE NEIGHBOUR: 'it returns false'. Refute it at one input. -/
def fnExactSameFactorsWrong : ChangeSpec := { name := "fnExactSameFactors", fn := fun _ => fun
  | [d1, d2] => { results := [.lit (.bool false)], args := [d1, d2] }
  | _ => none }
def FnExactSameFactorsWrongFalsely : Prop := fnExactSameFactorsRow.holds Try.pinned (OpenSpec.ofChange fnExactSameFactorsWrong)

/-- 'laws.FnExactIsPlaceList': WHATEVER THE INPUT: true; the input reads as it did. -/
def fnExactIsPlaceListSpec : ChangeSpec := { name := "fnExactIsPlaceList", fn := fun _ => fun
  | [d] => { results := [.lit (.bool true)], args := [d] }
  | _ => none }
def fnExactIsPlaceListRow : OpenClaim := { program := "ytolkhkkkfpaenaa", sum := "366ea53042e8ca0656d5b3ce332f9c96ddb3ec2f6c9f7d259d2831b951bb3105", func := "loop.example/g00810/laws.FnExactIsPlaceList", spec := "fnExactIsPlaceList", apart := false }
def FnExactIsPlaceListSaid : Prop := fnExactIsPlaceListRow.holds Try.pinned (OpenSpec.ofChange fnExactIsPlaceListSpec)

/-- ITS FALSE NEIGHBOUR: 'it returns false'. Refute it at one input. -/
def fnExactIsPlaceListWrong : ChangeSpec := { name := "fnExactIsPlaceList", fn := fun _ => fun
  | [d] => { results := [.lit (.bool false)], args := [d] }
  | _ => none }
def FnExactIsPlaceListWrongFalsely : Prop := fnExactIsPlaceListRow.holds Try.pinned (OpenSpec.ofChange fnExactIsPlaceListWrong)

/-- 'laws.FnExactIsValidEntry': WHATEVER THE INPUT: true; the input reads as it did. -/
def fnExactIsValidEntrySpec : ChangeSpec := { name := "fnExactIsValidEntry", fn := fun _ => fun
  | [d] => { results := [.lit (.bool true)], args := [d] }
  | _ => none }
def fnExactIsValidEntryRow : OpenClaim := { program := "ytolkhkkkfpaenaa", sum := "366ea53042e8ca0656d5b3ce332f9c96ddb3ec2f6c9f7d259d2831b951bb3105", func := "loop.example/g00810/laws.FnExactIsValidEntry", spec := "fnExactIsValidEntry", apart := false }
def FnExactIsValidEntrySaid : Prop := fnExactIsValidEntryRow.holds Try.pinned (OpenSpec.ofChange fnExactIsValidEntrySpec)

/-- ITS FALSE NEIGHBOUR: 'it returns false'. Refute it at one input. -/
def fnExactIsValidEntryWrong : ChangeSpec := { name := "fnExactIsValidEntry", fn := fun _ => fun
  | [d] => { results := [.lit (.bool false)], args := [d] }
  | _ => none }
def FnExactIsValidEntryWrongFalsely : Prop := fnExactIsValidEntryRow.holds Try.pinned (OpenSpec.ofChange fnExactIsValidEntryWrong)

/-- 'laws.FnExactNewConsole': WHATEVER THE INPUT: true; the input reads as it did. -/
def fnExactNewConsoleSpec : ChangeSpec := { name := "fnExactNewConsole", fn := fun _ => fun
  | [] => { results := [.lit (.bool true)], args := [] }
  | _ => none }
def fnExactNewConsoleRow : OpenClaim := { program := "ytolkhkkkfpaenaa", sum := "366ea53042e8ca0656d5b3ce332f9c96ddb3ec2f6c9f7d259d2831b951bb3105", func := "loop.example/g00810/laws.FnExactNewConsole", spec := "fnExactNewConsole", apart := false }
def FnExactNewConsoleSaid : Prop := fnExactNewConsoleRow.holds Try.pinned (OpenSpec.ofChange fnExactNewConsoleSpec)

/-- ITS FALSE NEIGHBOUR: 'it returns false'. Refute it at one input. -/
def fnExactNewConsoleWrong : ChangeSpec := { name := "fnExactNewConsole", fn := fun _ => fun
  | [] => { results := [.lit (.bool false)], args := [] }
  | _ => none }
def FnExactNewConsoleWrongFalsely : Prop := fnExactNewConsoleRow.holds Try.pinned (OpenSpec.ofChange fnExactNewConsoleWrong)

/-- 'laws.FnExactIsChannel': WHATEVER THE INPUT: true; the input reads as it did. -/
def fnExactIsChannelSpec : ChangeSpec := { name := "fnExactIsChannel", fn := fun _ => fun
  | [d] => { results := [.lit (.bool true)], args := [d] }
  | _ => none }
def fnExactIsChannelRow : OpenClaim := { program := "ytolkhkkkfpaenaa", sum := "366ea53042e8ca0656d5b3ce332f9c96ddb3ec2f6c9f7d259d2831b951bb3105", func := "loop.example/g00810/laws.FnExactIsChannel", spec := "fnExactIsChannel", apart := false }
def FnExactIsChannelSaid : Prop := fnExactIsChannelRow.holds Try.pinned (OpenSpec.ofChange fnExactIsChannelSpec)

/-- ITS FALSE NEIGHBOUR: 'it returns false'. Refute it at one input. -/
def fnExactIsChannelWrong : ChangeSpec := { name := "fnExactIsChannel", fn := fun _ => fun
  | [d] => { results := [.lit (.bool false)], args := [d] }
  | _ => none }
def FnExactIsChannelWrongFalsely : Prop := fnExactIsChannelRow.holds Try.pinned (OpenSpec.ofChange fnExactIsChannelWrong)

/-- 'laws.FnExactMissingIds': WHATEVER THE INPUT: true; the input reads as it did. -/
def fnExactMissingIdsSpec : ChangeSpec := { name := "fnExactMissingIds", fn := fun _ => fun
  | [d1, d2] => { results := [.lit (.bool true)], args := [d1, d2] }
  | _ => none }
def fnExactMissingIdsRow : OpenClaim := { program := "ytolkhkkkfpaenaa", sum := "366ea53042e8ca0656d5b3ce332f9c96ddb3ec2f6c9f7d259d2831b951bb3105", func := "loop.example/g00810/laws.FnExactMissingIds", spec := "fnExactMissingIds", apart := false }
def FnExactMissingIdsSaid : Prop := fnExactMissingIdsRow.holds Try.pinned (OpenSpec.ofChange fnExactMissingIdsSpec)

/-- ITS FALSE NEIGHBOUR: 'it returns false'. Refute it at one input. -/
def fnExactMissingIdsWrong : ChangeSpec := { name := "fnExactMissingIds", fn := fun _ => fun
  | [d1, d2] => { results := [.lit (.bool false)], args := [d1, d2] }
  | _ => none }
def FnExactMissingIdsWrongFalsely : Prop := fnExactMissingIdsRow.holds Try.pinned (OpenSpec.ofChange fnExactMissingIdsWrong)

/-- 'laws.FnExactIsValidBundle': WHATEVER THE INPUT: true; the input reads as it did. -/
def fnExactIsValidBundleSpec : ChangeSpec := { name := "fnExactIsValidBundle", fn := fun _ => fun
  | [d] => { results := [.lit (.bool true)], args := [d] }
  | _ => none }
def fnExactIsValidBundleRow : OpenClaim := { program := "ytolkhkkkfpaenaa", sum := "366ea53042e8ca0656d5b3ce332f9c96ddb3ec2f6c9f7d259d2831b951bb3105", func := "loop.example/g00810/laws.FnExactIsValidBundle", spec := "fnExactIsValidBundle", apart := false }
def FnExactIsValidBundleSaid : Prop := fnExactIsValidBundleRow.holds Try.pinned (OpenSpec.ofChange fnExactIsValidBundleSpec)

/-- ITS FALSE NEIGHBOUR: 'it returns false'. Refute it at one input. -/
def fnExactIsValidBundleWrong : ChangeSpec := { name := "fnExactIsValidBundle", fn := fun _ => fun
  | [d] => { results := [.lit (.bool false)], args := [d] }
  | _ => none }
def FnExactIsValidBundleWrongFalsely : Prop := fnExactIsValidBundleRow.holds Try.pinned (OpenSpec.ofChange fnExactIsValidBundleWrong)

/- THE SECOND FORM. 'bulk': how many values and letters a reading holds, each counted each time it is reached (what is shared counts as often as it is met; a slice's spare places count too). A statement '..UptoSaid' is the law's where the arguments, and the package variables that the reading takes, are together of bulk at most 1048576: NARROWER than '..Said'. Prove '..Said' where nothing that the law and all that it calls make is longer than what came in: it says more and counts as full. Else prove '..UptoSaid'. A law counts once. -/
mutual
def uptoBulk {H : Type} : DataW H → Nat
  | .lit (.string bytes) => bytes.length + 1
  | .lit _ => 1
  | .nil => 1
  | .ptr d => uptoBulk d + 1
  | .slice elems spare => uptoBulkAll elems + uptoBulkAll spare + 1
  | .agg parts => uptoBulkAll parts + 1
  | .iface _ d => uptoBulk d + 1
  | .map entries => uptoBulkEntries entries + 1
  | .held _ => 1
def uptoBulkAll {H : Type} : List (DataW H) → Nat
  | [] => 0
  | d :: r => uptoBulk d + uptoBulkAll r
def uptoBulkEntries {H : Type} : List (Lit × DataW H) → Nat
  | [] => 0
  | x :: r => uptoBulkEntry x + uptoBulkEntries r
def uptoBulkEntry {H : Type} : Lit × DataW H → Nat
  | (.string bytes, d) => bytes.length + uptoBulk d + 1
  | (_, d) => uptoBulk d + 1
 end
def uptoSmall : (H : Type) → List (DataW H) → Bool := fun _ ds => decide (uptoBulkAll ds ≤ 1048576)
def OpenSpec.upto (s : _root_.Go.ChangeSpec) : _root_.Go.OpenSpec := { _root_.Go.OpenSpec.ofChange s with cond := some uptoSmall }

/-- 'laws.FnExactCutJournal', WHERE WHAT IT READS IS OF BULK AT MOST 1048576: true; the input reads as it did. -/
def fnExactCutJournalUptoRow : OpenClaim := { program := "ytolkhkkkfpaenaa", sum := "366ea53042e8ca0656d5b3ce332f9c96ddb3ec2f6c9f7d259d2831b951bb3105", func := "loop.example/g00810/laws.FnExactCutJournal", spec := "fnExactCutJournal", apart := false, narrowed := true }
def FnExactCutJournalUptoSaid : Prop := fnExactCutJournalUptoRow.holds Try.pinned (OpenSpec.upto fnExactCutJournalSpec)

/-- 'laws.FnExactRobotOf', WHERE WHAT IT READS IS OF BULK AT MOST 1048576: true; the input reads as it did. -/
def fnExactRobotOfUptoRow : OpenClaim := { program := "ytolkhkkkfpaenaa", sum := "366ea53042e8ca0656d5b3ce332f9c96ddb3ec2f6c9f7d259d2831b951bb3105", func := "loop.example/g00810/laws.FnExactRobotOf", spec := "fnExactRobotOf", apart := false, narrowed := true }
def FnExactRobotOfUptoSaid : Prop := fnExactRobotOfUptoRow.holds Try.pinned (OpenSpec.upto fnExactRobotOfSpec)

/-- 'laws.FnExactChecksum', WHERE WHAT IT READS IS OF BULK AT MOST 1048576: true; the input reads as it did. -/
def fnExactChecksumUptoRow : OpenClaim := { program := "ytolkhkkkfpaenaa", sum := "366ea53042e8ca0656d5b3ce332f9c96ddb3ec2f6c9f7d259d2831b951bb3105", func := "loop.example/g00810/laws.FnExactChecksum", spec := "fnExactChecksum", apart := false, narrowed := true }
def FnExactChecksumUptoSaid : Prop := fnExactChecksumUptoRow.holds Try.pinned (OpenSpec.upto fnExactChecksumSpec)

/-- 'laws.FnExactChunkOf', WHERE WHAT IT READS IS OF BULK AT MOST 1048576: true; the input reads as it did. -/
def fnExactChunkOfUptoRow : OpenClaim := { program := "ytolkhkkkfpaenaa", sum := "366ea53042e8ca0656d5b3ce332f9c96ddb3ec2f6c9f7d259d2831b951bb3105", func := "loop.example/g00810/laws.FnExactChunkOf", spec := "fnExactChunkOf", apart := false, narrowed := true }
def FnExactChunkOfUptoSaid : Prop := fnExactChunkOfUptoRow.holds Try.pinned (OpenSpec.upto fnExactChunkOfSpec)

/-- 'laws.FnExactBitDistance', WHERE WHAT IT READS IS OF BULK AT MOST 1048576: true; the input reads as it did. -/
def fnExactBitDistanceUptoRow : OpenClaim := { program := "ytolkhkkkfpaenaa", sum := "366ea53042e8ca0656d5b3ce332f9c96ddb3ec2f6c9f7d259d2831b951bb3105", func := "loop.example/g00810/laws.FnExactBitDistance", spec := "fnExactBitDistance", apart := false, narrowed := true }
def FnExactBitDistanceUptoSaid : Prop := fnExactBitDistanceUptoRow.holds Try.pinned (OpenSpec.upto fnExactBitDistanceSpec)

/-- 'laws.FnExactIsValidPlace', WHERE WHAT IT READS IS OF BULK AT MOST 1048576: true; the input reads as it did. -/
def fnExactIsValidPlaceUptoRow : OpenClaim := { program := "ytolkhkkkfpaenaa", sum := "366ea53042e8ca0656d5b3ce332f9c96ddb3ec2f6c9f7d259d2831b951bb3105", func := "loop.example/g00810/laws.FnExactIsValidPlace", spec := "fnExactIsValidPlace", apart := false, narrowed := true }
def FnExactIsValidPlaceUptoSaid : Prop := fnExactIsValidPlaceUptoRow.holds Try.pinned (OpenSpec.upto fnExactIsValidPlaceSpec)

/-- 'laws.FnExactSameFactors', WHERE WHAT IT READS IS OF BULK AT MOST 1048576: true; the input reads as it did. -/
def fnExactSameFactorsUptoRow : OpenClaim := { program := "ytolkhkkkfpaenaa", sum := "366ea53042e8ca0656d5b3ce332f9c96ddb3ec2f6c9f7d259d2831b951bb3105", func := "loop.example/g00810/laws.FnExactSameFactors", spec := "fnExactSameFactors", apart := false, narrowed := true }
def FnExactSameFactorsUptoSaid : Prop := fnExactSameFactorsUptoRow.holds Try.pinned (OpenSpec.upto fnExactSameFactorsSpec)

/-- 'laws.FnExactIsPlaceList', WHERE WHAT IT READS IS OF BULK AT MOST 1048576: true; the input reads as it did. -/
def fnExactIsPlaceListUptoRow : OpenClaim := { program := "ytolkhkkkfpaenaa", sum := "366ea53042e8ca0656d5b3ce332f9c96ddb3ec2f6c9f7d259d2831b951bb3105", func := "loop.example/g00810/laws.FnExactIsPlaceList", spec := "fnExactIsPlaceList", apart := false, narrowed := true }
def FnExactIsPlaceListUptoSaid : Prop := fnExactIsPlaceListUptoRow.holds Try.pinned (OpenSpec.upto fnExactIsPlaceListSpec)

/-- 'laws.FnExactIsValidEntry', WHERE WHAT IT READS IS OF BULK AT MOST 1048576: true; the input reads as it did. -/
def fnExactIsValidEntryUptoRow : OpenClaim := { program := "ytolkhkkkfpaenaa", sum := "366ea53042e8ca0656d5b3ce332f9c96ddb3ec2f6c9f7d259d2831b951bb3105", func := "loop.example/g00810/laws.FnExactIsValidEntry", spec := "fnExactIsValidEntry", apart := false, narrowed := true }
def FnExactIsValidEntryUptoSaid : Prop := fnExactIsValidEntryUptoRow.holds Try.pinned (OpenSpec.upto fnExactIsValidEntrySpec)

/-- 'laws.FnExactNewConsole', WHERE WHAT IT READS IS OF BULK AT MOST 1048576: true; the input reads as it did. -/
def fnExactNewConsoleUptoRow : OpenClaim := { program := "ytolkhkkkfpaenaa", sum := "366ea53042e8ca0656d5b3ce332f9c96ddb3ec2f6c9f7d259d2831b951bb3105", func := "loop.example/g00810/laws.FnExactNewConsole", spec := "fnExactNewConsole", apart := false, narrowed := true }
def FnExactNewConsoleUptoSaid : Prop := fnExactNewConsoleUptoRow.holds Try.pinned (OpenSpec.upto fnExactNewConsoleSpec)

/-- 'laws.FnExactIsChannel', WHERE WHAT IT READS IS OF BULK AT MOST 1048576: true; the input reads as it did. -/
def fnExactIsChannelUptoRow : OpenClaim := { program := "ytolkhkkkfpaenaa", sum := "366ea53042e8ca0656d5b3ce332f9c96ddb3ec2f6c9f7d259d2831b951bb3105", func := "loop.example/g00810/laws.FnExactIsChannel", spec := "fnExactIsChannel", apart := false, narrowed := true }
def FnExactIsChannelUptoSaid : Prop := fnExactIsChannelUptoRow.holds Try.pinned (OpenSpec.upto fnExactIsChannelSpec)

/-- 'laws.FnExactMissingIds', WHERE WHAT IT READS IS OF BULK AT MOST 1048576: true; the input reads as it did. -/
def fnExactMissingIdsUptoRow : OpenClaim := { program := "ytolkhkkkfpaenaa", sum := "366ea53042e8ca0656d5b3ce332f9c96ddb3ec2f6c9f7d259d2831b951bb3105", func := "loop.example/g00810/laws.FnExactMissingIds", spec := "fnExactMissingIds", apart := false, narrowed := true }
def FnExactMissingIdsUptoSaid : Prop := fnExactMissingIdsUptoRow.holds Try.pinned (OpenSpec.upto fnExactMissingIdsSpec)

/-- 'laws.FnExactIsValidBundle', WHERE WHAT IT READS IS OF BULK AT MOST 1048576: true; the input reads as it did. -/
def fnExactIsValidBundleUptoRow : OpenClaim := { program := "ytolkhkkkfpaenaa", sum := "366ea53042e8ca0656d5b3ce332f9c96ddb3ec2f6c9f7d259d2831b951bb3105", func := "loop.example/g00810/laws.FnExactIsValidBundle", spec := "fnExactIsValidBundle", apart := false, narrowed := true }
def FnExactIsValidBundleUptoSaid : Prop := fnExactIsValidBundleUptoRow.holds Try.pinned (OpenSpec.upto fnExactIsValidBundleSpec)

end Rows
end Go.Proofs.Ytolkhkkkfpaenaa
