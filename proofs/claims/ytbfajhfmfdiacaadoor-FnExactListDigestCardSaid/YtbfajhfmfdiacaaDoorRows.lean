/-
  NARROWER THAN 'FOR EVERY INPUT', by the rows' own cells (each row's printed sentence says how): FnChannel: laid · FnExactPacketSum: laid · FnExactIsIntact: laid · FnExactFormatEntry: laid · FnExactListDigest: laid · FnExactFormatBundle: laid · FnExactJournalOf: laid · FnExactStepChannel: laid · FnExactCalmChannel: laid.
  DERIVED. THE GIVEN ROWS OF THIS SEAT. 9 by the template 'for every input the law returns true; each argument reads behind the call as it read before'; 0 by the template 'total and deterministic' (their statements: YtbfajhfmfdiacaaDoorTotals.lean).
  GIVEN WITH THE SEED: the statements are not yours to turn. If you find one false, say at which input.
  Laid BY PROGRAM, IN A SANDBOX (cutbox-rows.mjs): the forced cells as the released guide's own fill.sh prints them over the translation 143bb2393685a1cf… (all of the seat's roots in one cut). By AI agents, Wed Nov 11 2026. No macro, syntax, notation, axiom, sorry.
-/
import Derived.Test.YtbfajhfmfdiacaaDoorChecked
import GoSem.Claim
import GoSem.ClaimJoined
import GoSem.ClaimMapViews
import Derived.JoinedTies
import Derived.KernelRfl
namespace Go.Proofs.YtbfajhfmfdiacaaDoor
/- THE CELL 'sum', in the pinned program and in every row, IS THE sha256 OF THE DUMP (.gsa) THAT YtbfajhfmfdiacaaDoorProg.lean LOADS. Nothing in Lean hashes anything: it is a label: what it is worth is what the hold of that sum in a sandbox is worth. -/
noncomputable def Tryd.pinned : Pinned := { name := "ytbfajhfmfdiacaadoor", sum := "143bb2393685a1cfdcf4a211e64214f97ccbfeaf90bcab50cd679fc67ce30a63", checked := Tryd.checked }
namespace Rows
def none {H : Type} : Left H := { results := [], args := [] }

/- WHAT THE LISTED PACKAGE-LEVEL VARIABLES READ AS WHEN THE CALL BEGINS. Each datum BY PROGRAM (the guide's laid-datum.mjs) off the statement by which the dump's own 'gosem.cut.vars' lays the variable. In a bare row this is a premise. The card (YtbfajhfmfdiacaaDoorCards.lean) ties it to the program's text. -/
def laid_math_bits_deBruijn32tab {H : Type} : DataW H := .agg [.lit (.int .u8 0), .lit (.int .u8 1), .lit (.int .u8 28), .lit (.int .u8 2), .lit (.int .u8 29), .lit (.int .u8 14), .lit (.int .u8 24), .lit (.int .u8 3), .lit (.int .u8 30), .lit (.int .u8 22), .lit (.int .u8 20), .lit (.int .u8 15), .lit (.int .u8 25), .lit (.int .u8 17), .lit (.int .u8 4), .lit (.int .u8 8), .lit (.int .u8 31), .lit (.int .u8 27), .lit (.int .u8 13), .lit (.int .u8 23), .lit (.int .u8 21), .lit (.int .u8 19), .lit (.int .u8 16), .lit (.int .u8 7), .lit (.int .u8 26), .lit (.int .u8 12), .lit (.int .u8 18), .lit (.int .u8 6), .lit (.int .u8 11), .lit (.int .u8 5), .lit (.int .u8 10), .lit (.int .u8 9)]
def laid_math_bits_deBruijn64tab {H : Type} : DataW H := .agg [.lit (.int .u8 0), .lit (.int .u8 1), .lit (.int .u8 56), .lit (.int .u8 2), .lit (.int .u8 57), .lit (.int .u8 49), .lit (.int .u8 28), .lit (.int .u8 3), .lit (.int .u8 61), .lit (.int .u8 58), .lit (.int .u8 42), .lit (.int .u8 50), .lit (.int .u8 38), .lit (.int .u8 29), .lit (.int .u8 17), .lit (.int .u8 4), .lit (.int .u8 62), .lit (.int .u8 47), .lit (.int .u8 59), .lit (.int .u8 36), .lit (.int .u8 45), .lit (.int .u8 43), .lit (.int .u8 51), .lit (.int .u8 22), .lit (.int .u8 53), .lit (.int .u8 39), .lit (.int .u8 33), .lit (.int .u8 30), .lit (.int .u8 24), .lit (.int .u8 18), .lit (.int .u8 12), .lit (.int .u8 5), .lit (.int .u8 63), .lit (.int .u8 55), .lit (.int .u8 48), .lit (.int .u8 27), .lit (.int .u8 60), .lit (.int .u8 41), .lit (.int .u8 37), .lit (.int .u8 16), .lit (.int .u8 46), .lit (.int .u8 35), .lit (.int .u8 44), .lit (.int .u8 21), .lit (.int .u8 52), .lit (.int .u8 32), .lit (.int .u8 23), .lit (.int .u8 11), .lit (.int .u8 54), .lit (.int .u8 26), .lit (.int .u8 40), .lit (.int .u8 15), .lit (.int .u8 34), .lit (.int .u8 20), .lit (.int .u8 31), .lit (.int .u8 10), .lit (.int .u8 25), .lit (.int .u8 14), .lit (.int .u8 19), .lit (.int .u8 9), .lit (.int .u8 13), .lit (.int .u8 8), .lit (.int .u8 7), .lit (.int .u8 6)]
def laid_internal_strconv_uint64pow10 {H : Type} : DataW H := .agg [.lit (.int .u64 1), .lit (.int .u64 10), .lit (.int .u64 100), .lit (.int .u64 1000), .lit (.int .u64 10000), .lit (.int .u64 100000), .lit (.int .u64 1000000), .lit (.int .u64 10000000), .lit (.int .u64 100000000), .lit (.int .u64 1000000000), .lit (.int .u64 10000000000), .lit (.int .u64 100000000000), .lit (.int .u64 1000000000000), .lit (.int .u64 10000000000000), .lit (.int .u64 100000000000000), .lit (.int .u64 1000000000000000), .lit (.int .u64 10000000000000000), .lit (.int .u64 100000000000000000), .lit (.int .u64 1000000000000000000), .lit (.int .u64 10000000000000000000)]

/-- 'laws.FnChannel': WHATEVER THE INPUT: true; the input reads as it did. -/
def fnChannelSpec : ChangeSpec := { name := "fnChannel", fn := fun _ => fun
  | [d] => { results := [.lit (.bool true)], args := [d] }
  | _ => none }
def fnChannelRow : OpenClaim := { program := "ytbfajhfmfdiacaadoor", sum := "143bb2393685a1cfdcf4a211e64214f97ccbfeaf90bcab50cd679fc67ce30a63", func := "loop.example/g00810/laws.FnChannel", spec := "fnChannel", named := ["internal/strconv.uint64pow10", "math/bits.deBruijn32tab", "math/bits.deBruijn64tab"], apart := false, laid := [("math/bits.deBruijn32tab", laid_math_bits_deBruijn32tab), ("math/bits.deBruijn64tab", laid_math_bits_deBruijn64tab), ("internal/strconv.uint64pow10", laid_internal_strconv_uint64pow10)] }
def FnChannelSaid : Prop := fnChannelRow.holds Tryd.pinned (OpenSpec.ofChange fnChannelSpec)

/-- ITS FALSE NEIGHBOUR: 'it returns false'. Refute it at one input. -/
def fnChannelWrong : ChangeSpec := { name := "fnChannel", fn := fun _ => fun
  | [d] => { results := [.lit (.bool false)], args := [d] }
  | _ => none }
def FnChannelWrongFalsely : Prop := fnChannelRow.holds Tryd.pinned (OpenSpec.ofChange fnChannelWrong)

/-- 'laws.FnExactPacketSum': WHATEVER THE INPUT: true; the input reads as it did. -/
def fnExactPacketSumSpec : ChangeSpec := { name := "fnExactPacketSum", fn := fun _ => fun
  | [d] => { results := [.lit (.bool true)], args := [d] }
  | _ => none }
def fnExactPacketSumRow : OpenClaim := { program := "ytbfajhfmfdiacaadoor", sum := "143bb2393685a1cfdcf4a211e64214f97ccbfeaf90bcab50cd679fc67ce30a63", func := "loop.example/g00810/laws.FnExactPacketSum", spec := "fnExactPacketSum", recurses := true, named := ["internal/strconv.uint64pow10", "math/bits.deBruijn32tab", "math/bits.deBruijn64tab"], apart := false, laid := [("math/bits.deBruijn32tab", laid_math_bits_deBruijn32tab), ("math/bits.deBruijn64tab", laid_math_bits_deBruijn64tab), ("internal/strconv.uint64pow10", laid_internal_strconv_uint64pow10)] }
def FnExactPacketSumSaid : Prop := fnExactPacketSumRow.holds Tryd.pinned (OpenSpec.ofChange fnExactPacketSumSpec)

/-- ITS FALSE NEIGHBOUR: 'it returns false'. Refute it at one input. -/
def fnExactPacketSumWrong : ChangeSpec := { name := "fnExactPacketSum", fn := fun _ => fun
  | [d] => { results := [.lit (.bool false)], args := [d] }
  | _ => none }
def FnExactPacketSumWrongFalsely : Prop := fnExactPacketSumRow.holds Tryd.pinned (OpenSpec.ofChange fnExactPacketSumWrong)

/-- 'laws.FnExactIsIntact': WHATEVER THE INPUT: true; the input reads as it did. -/
def fnExactIsIntactSpec : ChangeSpec := { name := "fnExactIsIntact", fn := fun _ => fun
  | [d] => { results := [.lit (.bool true)], args := [d] }
  | _ => none }
def fnExactIsIntactRow : OpenClaim := { program := "ytbfajhfmfdiacaadoor", sum := "143bb2393685a1cfdcf4a211e64214f97ccbfeaf90bcab50cd679fc67ce30a63", func := "loop.example/g00810/laws.FnExactIsIntact", spec := "fnExactIsIntact", recurses := true, named := ["internal/strconv.uint64pow10", "math/bits.deBruijn32tab", "math/bits.deBruijn64tab"], apart := false, laid := [("math/bits.deBruijn32tab", laid_math_bits_deBruijn32tab), ("math/bits.deBruijn64tab", laid_math_bits_deBruijn64tab), ("internal/strconv.uint64pow10", laid_internal_strconv_uint64pow10)] }
def FnExactIsIntactSaid : Prop := fnExactIsIntactRow.holds Tryd.pinned (OpenSpec.ofChange fnExactIsIntactSpec)

/-- ITS FALSE NEIGHBOUR: 'it returns false'. Refute it at one input. -/
def fnExactIsIntactWrong : ChangeSpec := { name := "fnExactIsIntact", fn := fun _ => fun
  | [d] => { results := [.lit (.bool false)], args := [d] }
  | _ => none }
def FnExactIsIntactWrongFalsely : Prop := fnExactIsIntactRow.holds Tryd.pinned (OpenSpec.ofChange fnExactIsIntactWrong)

/-- 'laws.FnExactFormatEntry': WHATEVER THE INPUT: true; the input reads as it did. -/
def fnExactFormatEntrySpec : ChangeSpec := { name := "fnExactFormatEntry", fn := fun _ => fun
  | [d1, d2] => { results := [.lit (.bool true)], args := [d1, d2] }
  | _ => none }
def fnExactFormatEntryRow : OpenClaim := { program := "ytbfajhfmfdiacaadoor", sum := "143bb2393685a1cfdcf4a211e64214f97ccbfeaf90bcab50cd679fc67ce30a63", func := "loop.example/g00810/laws.FnExactFormatEntry", spec := "fnExactFormatEntry", recurses := true, named := ["internal/strconv.uint64pow10", "math/bits.deBruijn32tab", "math/bits.deBruijn64tab"], apart := false, laid := [("math/bits.deBruijn32tab", laid_math_bits_deBruijn32tab), ("math/bits.deBruijn64tab", laid_math_bits_deBruijn64tab), ("internal/strconv.uint64pow10", laid_internal_strconv_uint64pow10)] }
def FnExactFormatEntrySaid : Prop := fnExactFormatEntryRow.holds Tryd.pinned (OpenSpec.ofChange fnExactFormatEntrySpec)

/-- ITS FALSE NEIGHBOUR: 'it returns false'. Refute it at one input. -/
def fnExactFormatEntryWrong : ChangeSpec := { name := "fnExactFormatEntry", fn := fun _ => fun
  | [d1, d2] => { results := [.lit (.bool false)], args := [d1, d2] }
  | _ => none }
def FnExactFormatEntryWrongFalsely : Prop := fnExactFormatEntryRow.holds Tryd.pinned (OpenSpec.ofChange fnExactFormatEntryWrong)

/-- 'laws.FnExactListDigest': WHATEVER THE INPUT: true; the input reads as it did. -/
def fnExactListDigestSpec : ChangeSpec := { name := "fnExactListDigest", fn := fun _ => fun
  | [d] => { results := [.lit (.bool true)], args := [d] }
  | _ => none }
def fnExactListDigestRow : OpenClaim := { program := "ytbfajhfmfdiacaadoor", sum := "143bb2393685a1cfdcf4a211e64214f97ccbfeaf90bcab50cd679fc67ce30a63", func := "loop.example/g00810/laws.FnExactListDigest", spec := "fnExactListDigest", recurses := true, named := ["internal/strconv.uint64pow10", "math/bits.deBruijn32tab", "math/bits.deBruijn64tab"], apart := false, laid := [("math/bits.deBruijn32tab", laid_math_bits_deBruijn32tab), ("math/bits.deBruijn64tab", laid_math_bits_deBruijn64tab), ("internal/strconv.uint64pow10", laid_internal_strconv_uint64pow10)] }
def FnExactListDigestSaid : Prop := fnExactListDigestRow.holds Tryd.pinned (OpenSpec.ofChange fnExactListDigestSpec)

/-- ITS FALSE NEIGHBOUR: 'it returns false'. Refute it at one input. -/
def fnExactListDigestWrong : ChangeSpec := { name := "fnExactListDigest", fn := fun _ => fun
  | [d] => { results := [.lit (.bool false)], args := [d] }
  | _ => none }
def FnExactListDigestWrongFalsely : Prop := fnExactListDigestRow.holds Tryd.pinned (OpenSpec.ofChange fnExactListDigestWrong)

/-- 'laws.FnExactFormatBundle': WHATEVER THE INPUT: true; the input reads as it did. -/
def fnExactFormatBundleSpec : ChangeSpec := { name := "fnExactFormatBundle", fn := fun _ => fun
  | [d] => { results := [.lit (.bool true)], args := [d] }
  | _ => none }
def fnExactFormatBundleRow : OpenClaim := { program := "ytbfajhfmfdiacaadoor", sum := "143bb2393685a1cfdcf4a211e64214f97ccbfeaf90bcab50cd679fc67ce30a63", func := "loop.example/g00810/laws.FnExactFormatBundle", spec := "fnExactFormatBundle", recurses := true, named := ["internal/strconv.uint64pow10", "math/bits.deBruijn32tab", "math/bits.deBruijn64tab"], apart := false, laid := [("math/bits.deBruijn32tab", laid_math_bits_deBruijn32tab), ("math/bits.deBruijn64tab", laid_math_bits_deBruijn64tab), ("internal/strconv.uint64pow10", laid_internal_strconv_uint64pow10)] }
def FnExactFormatBundleSaid : Prop := fnExactFormatBundleRow.holds Tryd.pinned (OpenSpec.ofChange fnExactFormatBundleSpec)

/-- ITS FALSE NEIGHBOUR: 'it returns false'. Refute it at one input. -/
def fnExactFormatBundleWrong : ChangeSpec := { name := "fnExactFormatBundle", fn := fun _ => fun
  | [d] => { results := [.lit (.bool false)], args := [d] }
  | _ => none }
def FnExactFormatBundleWrongFalsely : Prop := fnExactFormatBundleRow.holds Tryd.pinned (OpenSpec.ofChange fnExactFormatBundleWrong)

/-- 'laws.FnExactJournalOf': WHATEVER THE INPUT: true; the input reads as it did. -/
def fnExactJournalOfSpec : ChangeSpec := { name := "fnExactJournalOf", fn := fun _ => fun
  | [d] => { results := [.lit (.bool true)], args := [d] }
  | _ => none }
def fnExactJournalOfRow : OpenClaim := { program := "ytbfajhfmfdiacaadoor", sum := "143bb2393685a1cfdcf4a211e64214f97ccbfeaf90bcab50cd679fc67ce30a63", func := "loop.example/g00810/laws.FnExactJournalOf", spec := "fnExactJournalOf", recurses := true, named := ["internal/strconv.uint64pow10", "math/bits.deBruijn32tab", "math/bits.deBruijn64tab"], apart := false, laid := [("math/bits.deBruijn32tab", laid_math_bits_deBruijn32tab), ("math/bits.deBruijn64tab", laid_math_bits_deBruijn64tab), ("internal/strconv.uint64pow10", laid_internal_strconv_uint64pow10)] }
def FnExactJournalOfSaid : Prop := fnExactJournalOfRow.holds Tryd.pinned (OpenSpec.ofChange fnExactJournalOfSpec)

/-- ITS FALSE NEIGHBOUR: 'it returns false'. Refute it at one input. -/
def fnExactJournalOfWrong : ChangeSpec := { name := "fnExactJournalOf", fn := fun _ => fun
  | [d] => { results := [.lit (.bool false)], args := [d] }
  | _ => none }
def FnExactJournalOfWrongFalsely : Prop := fnExactJournalOfRow.holds Tryd.pinned (OpenSpec.ofChange fnExactJournalOfWrong)

/-- 'laws.FnExactStepChannel': WHATEVER THE INPUT: true; the input reads as it did. -/
def fnExactStepChannelSpec : ChangeSpec := { name := "fnExactStepChannel", fn := fun _ => fun
  | [d1, d2, d3] => { results := [.lit (.bool true)], args := [d1, d2, d3] }
  | _ => none }
def fnExactStepChannelRow : OpenClaim := { program := "ytbfajhfmfdiacaadoor", sum := "143bb2393685a1cfdcf4a211e64214f97ccbfeaf90bcab50cd679fc67ce30a63", func := "loop.example/g00810/laws.FnExactStepChannel", spec := "fnExactStepChannel", recurses := true, named := ["internal/strconv.uint64pow10", "math/bits.deBruijn32tab", "math/bits.deBruijn64tab"], apart := false, laid := [("math/bits.deBruijn32tab", laid_math_bits_deBruijn32tab), ("math/bits.deBruijn64tab", laid_math_bits_deBruijn64tab), ("internal/strconv.uint64pow10", laid_internal_strconv_uint64pow10)] }
def FnExactStepChannelSaid : Prop := fnExactStepChannelRow.holds Tryd.pinned (OpenSpec.ofChange fnExactStepChannelSpec)

/-- ITS FALSE NEIGHBOUR: 'it returns false'. Refute it at one input. -/
def fnExactStepChannelWrong : ChangeSpec := { name := "fnExactStepChannel", fn := fun _ => fun
  | [d1, d2, d3] => { results := [.lit (.bool false)], args := [d1, d2, d3] }
  | _ => none }
def FnExactStepChannelWrongFalsely : Prop := fnExactStepChannelRow.holds Tryd.pinned (OpenSpec.ofChange fnExactStepChannelWrong)

/-- 'laws.FnExactCalmChannel': WHATEVER THE INPUT: true; the input reads as it did. -/
def fnExactCalmChannelSpec : ChangeSpec := { name := "fnExactCalmChannel", fn := fun _ => fun
  | [d] => { results := [.lit (.bool true)], args := [d] }
  | _ => none }
def fnExactCalmChannelRow : OpenClaim := { program := "ytbfajhfmfdiacaadoor", sum := "143bb2393685a1cfdcf4a211e64214f97ccbfeaf90bcab50cd679fc67ce30a63", func := "loop.example/g00810/laws.FnExactCalmChannel", spec := "fnExactCalmChannel", recurses := true, named := ["internal/strconv.uint64pow10", "math/bits.deBruijn32tab", "math/bits.deBruijn64tab"], apart := false, laid := [("math/bits.deBruijn32tab", laid_math_bits_deBruijn32tab), ("math/bits.deBruijn64tab", laid_math_bits_deBruijn64tab), ("internal/strconv.uint64pow10", laid_internal_strconv_uint64pow10)] }
def FnExactCalmChannelSaid : Prop := fnExactCalmChannelRow.holds Tryd.pinned (OpenSpec.ofChange fnExactCalmChannelSpec)

/-- ITS FALSE NEIGHBOUR: 'it returns false'. Refute it at one input. -/
def fnExactCalmChannelWrong : ChangeSpec := { name := "fnExactCalmChannel", fn := fun _ => fun
  | [d] => { results := [.lit (.bool false)], args := [d] }
  | _ => none }
def FnExactCalmChannelWrongFalsely : Prop := fnExactCalmChannelRow.holds Tryd.pinned (OpenSpec.ofChange fnExactCalmChannelWrong)

/- THE SECOND FORM. 'bulk': how many values and letters a reading holds, each counted each time it is reached (what is shared counts as often as it is met; a slice's spare places count too). A statement '..UptoSaid' is the law's where the arguments, and the package variables that the reading takes, are together of bulk at most 1048576: NARROWER than '..Said'. Prove '..Said' where nothing that the law and all that it calls make is longer than what came in: it says more and counts as full. Else prove '..UptoSaid'. A law counts once. -/
mutual
def uptoBulk {H : Type} : DataW H → Nat
  | .lit (.string bytes) => bytes.length + 1
  | .lit _ => 1
  | .nil => 1
  | .ptr d => uptoBulk d + 1
  | .slice elems spare => uptoBulkAll elems + uptoBulkAll spare + 1
  | .agg parts => uptoBulkAll parts + 1
  | .iface _ d => uptoBulk d + 1
  | .map entries => uptoBulkEntries entries + 1
  | .held _ => 1
def uptoBulkAll {H : Type} : List (DataW H) → Nat
  | [] => 0
  | d :: r => uptoBulk d + uptoBulkAll r
def uptoBulkEntries {H : Type} : List (Lit × DataW H) → Nat
  | [] => 0
  | x :: r => uptoBulkEntry x + uptoBulkEntries r
def uptoBulkEntry {H : Type} : Lit × DataW H → Nat
  | (.string bytes, d) => bytes.length + uptoBulk d + 1
  | (_, d) => uptoBulk d + 1
 end
def uptoSmall : (H : Type) → List (DataW H) → Bool := fun _ ds => decide (uptoBulkAll ds ≤ 1048576)
def OpenSpec.upto (s : _root_.Go.ChangeSpec) : _root_.Go.OpenSpec := { _root_.Go.OpenSpec.ofChange s with cond := some uptoSmall }

/-- 'laws.FnChannel', WHERE WHAT IT READS IS OF BULK AT MOST 1048576: true; the input reads as it did. -/
def fnChannelUptoRow : OpenClaim := { program := "ytbfajhfmfdiacaadoor", sum := "143bb2393685a1cfdcf4a211e64214f97ccbfeaf90bcab50cd679fc67ce30a63", func := "loop.example/g00810/laws.FnChannel", spec := "fnChannel", named := ["internal/strconv.uint64pow10", "math/bits.deBruijn32tab", "math/bits.deBruijn64tab"], apart := false, laid := [("math/bits.deBruijn32tab", laid_math_bits_deBruijn32tab), ("math/bits.deBruijn64tab", laid_math_bits_deBruijn64tab), ("internal/strconv.uint64pow10", laid_internal_strconv_uint64pow10)], narrowed := true }
def FnChannelUptoSaid : Prop := fnChannelUptoRow.holds Tryd.pinned (OpenSpec.upto fnChannelSpec)

/-- 'laws.FnExactPacketSum', WHERE WHAT IT READS IS OF BULK AT MOST 1048576: true; the input reads as it did. -/
def fnExactPacketSumUptoRow : OpenClaim := { program := "ytbfajhfmfdiacaadoor", sum := "143bb2393685a1cfdcf4a211e64214f97ccbfeaf90bcab50cd679fc67ce30a63", func := "loop.example/g00810/laws.FnExactPacketSum", spec := "fnExactPacketSum", recurses := true, named := ["internal/strconv.uint64pow10", "math/bits.deBruijn32tab", "math/bits.deBruijn64tab"], apart := false, laid := [("math/bits.deBruijn32tab", laid_math_bits_deBruijn32tab), ("math/bits.deBruijn64tab", laid_math_bits_deBruijn64tab), ("internal/strconv.uint64pow10", laid_internal_strconv_uint64pow10)], narrowed := true }
def FnExactPacketSumUptoSaid : Prop := fnExactPacketSumUptoRow.holds Tryd.pinned (OpenSpec.upto fnExactPacketSumSpec)

/-- 'laws.FnExactIsIntact', WHERE WHAT IT READS IS OF BULK AT MOST 1048576: true; the input reads as it did. -/
def fnExactIsIntactUptoRow : OpenClaim := { program := "ytbfajhfmfdiacaadoor", sum := "143bb2393685a1cfdcf4a211e64214f97ccbfeaf90bcab50cd679fc67ce30a63", func := "loop.example/g00810/laws.FnExactIsIntact", spec := "fnExactIsIntact", recurses := true, named := ["internal/strconv.uint64pow10", "math/bits.deBruijn32tab", "math/bits.deBruijn64tab"], apart := false, laid := [("math/bits.deBruijn32tab", laid_math_bits_deBruijn32tab), ("math/bits.deBruijn64tab", laid_math_bits_deBruijn64tab), ("internal/strconv.uint64pow10", laid_internal_strconv_uint64pow10)], narrowed := true }
def FnExactIsIntactUptoSaid : Prop := fnExactIsIntactUptoRow.holds Tryd.pinned (OpenSpec.upto fnExactIsIntactSpec)

/-- 'laws.FnExactFormatEntry', WHERE WHAT IT READS IS OF BULK AT MOST 1048576: true; the input reads as it did. -/
def fnExactFormatEntryUptoRow : OpenClaim := { program := "ytbfajhfmfdiacaadoor", sum := "143bb2393685a1cfdcf4a211e64214f97ccbfeaf90bcab50cd679fc67ce30a63", func := "loop.example/g00810/laws.FnExactFormatEntry", spec := "fnExactFormatEntry", recurses := true, named := ["internal/strconv.uint64pow10", "math/bits.deBruijn32tab", "math/bits.deBruijn64tab"], apart := false, laid := [("math/bits.deBruijn32tab", laid_math_bits_deBruijn32tab), ("math/bits.deBruijn64tab", laid_math_bits_deBruijn64tab), ("internal/strconv.uint64pow10", laid_internal_strconv_uint64pow10)], narrowed := true }
def FnExactFormatEntryUptoSaid : Prop := fnExactFormatEntryUptoRow.holds Tryd.pinned (OpenSpec.upto fnExactFormatEntrySpec)

/-- 'laws.FnExactListDigest', WHERE WHAT IT READS IS OF BULK AT MOST 1048576: true; the input reads as it did. -/
def fnExactListDigestUptoRow : OpenClaim := { program := "ytbfajhfmfdiacaadoor", sum := "143bb2393685a1cfdcf4a211e64214f97ccbfeaf90bcab50cd679fc67ce30a63", func := "loop.example/g00810/laws.FnExactListDigest", spec := "fnExactListDigest", recurses := true, named := ["internal/strconv.uint64pow10", "math/bits.deBruijn32tab", "math/bits.deBruijn64tab"], apart := false, laid := [("math/bits.deBruijn32tab", laid_math_bits_deBruijn32tab), ("math/bits.deBruijn64tab", laid_math_bits_deBruijn64tab), ("internal/strconv.uint64pow10", laid_internal_strconv_uint64pow10)], narrowed := true }
def FnExactListDigestUptoSaid : Prop := fnExactListDigestUptoRow.holds Tryd.pinned (OpenSpec.upto fnExactListDigestSpec)

/-- 'laws.FnExactFormatBundle', WHERE WHAT IT READS IS OF BULK AT MOST 1048576: true; the input reads as it did. -/
def fnExactFormatBundleUptoRow : OpenClaim := { program := "ytbfajhfmfdiacaadoor", sum := "143bb2393685a1cfdcf4a211e64214f97ccbfeaf90bcab50cd679fc67ce30a63", func := "loop.example/g00810/laws.FnExactFormatBundle", spec := "fnExactFormatBundle", recurses := true, named := ["internal/strconv.uint64pow10", "math/bits.deBruijn32tab", "math/bits.deBruijn64tab"], apart := false, laid := [("math/bits.deBruijn32tab", laid_math_bits_deBruijn32tab), ("math/bits.deBruijn64tab", laid_math_bits_deBruijn64tab), ("internal/strconv.uint64pow10", laid_internal_strconv_uint64pow10)], narrowed := true }
def FnExactFormatBundleUptoSaid : Prop := fnExactFormatBundleUptoRow.holds Tryd.pinned (OpenSpec.upto fnExactFormatBundleSpec)

/-- 'laws.FnExactJournalOf', WHERE WHAT IT READS IS OF BULK AT MOST 1048576: true; the input reads as it did. -/
def fnExactJournalOfUptoRow : OpenClaim := { program := "ytbfajhfmfdiacaadoor", sum := "143bb2393685a1cfdcf4a211e64214f97ccbfeaf90bcab50cd679fc67ce30a63", func := "loop.example/g00810/laws.FnExactJournalOf", spec := "fnExactJournalOf", recurses := true, named := ["internal/strconv.uint64pow10", "math/bits.deBruijn32tab", "math/bits.deBruijn64tab"], apart := false, laid := [("math/bits.deBruijn32tab", laid_math_bits_deBruijn32tab), ("math/bits.deBruijn64tab", laid_math_bits_deBruijn64tab), ("internal/strconv.uint64pow10", laid_internal_strconv_uint64pow10)], narrowed := true }
def FnExactJournalOfUptoSaid : Prop := fnExactJournalOfUptoRow.holds Tryd.pinned (OpenSpec.upto fnExactJournalOfSpec)

/-- 'laws.FnExactStepChannel', WHERE WHAT IT READS IS OF BULK AT MOST 1048576: true; the input reads as it did. -/
def fnExactStepChannelUptoRow : OpenClaim := { program := "ytbfajhfmfdiacaadoor", sum := "143bb2393685a1cfdcf4a211e64214f97ccbfeaf90bcab50cd679fc67ce30a63", func := "loop.example/g00810/laws.FnExactStepChannel", spec := "fnExactStepChannel", recurses := true, named := ["internal/strconv.uint64pow10", "math/bits.deBruijn32tab", "math/bits.deBruijn64tab"], apart := false, laid := [("math/bits.deBruijn32tab", laid_math_bits_deBruijn32tab), ("math/bits.deBruijn64tab", laid_math_bits_deBruijn64tab), ("internal/strconv.uint64pow10", laid_internal_strconv_uint64pow10)], narrowed := true }
def FnExactStepChannelUptoSaid : Prop := fnExactStepChannelUptoRow.holds Tryd.pinned (OpenSpec.upto fnExactStepChannelSpec)

/-- 'laws.FnExactCalmChannel', WHERE WHAT IT READS IS OF BULK AT MOST 1048576: true; the input reads as it did. -/
def fnExactCalmChannelUptoRow : OpenClaim := { program := "ytbfajhfmfdiacaadoor", sum := "143bb2393685a1cfdcf4a211e64214f97ccbfeaf90bcab50cd679fc67ce30a63", func := "loop.example/g00810/laws.FnExactCalmChannel", spec := "fnExactCalmChannel", recurses := true, named := ["internal/strconv.uint64pow10", "math/bits.deBruijn32tab", "math/bits.deBruijn64tab"], apart := false, laid := [("math/bits.deBruijn32tab", laid_math_bits_deBruijn32tab), ("math/bits.deBruijn64tab", laid_math_bits_deBruijn64tab), ("internal/strconv.uint64pow10", laid_internal_strconv_uint64pow10)], narrowed := true }
def FnExactCalmChannelUptoSaid : Prop := fnExactCalmChannelUptoRow.holds Tryd.pinned (OpenSpec.upto fnExactCalmChannelSpec)

end Rows
end Go.Proofs.YtbfajhfmfdiacaaDoor
