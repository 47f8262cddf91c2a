/-
  DERIVED. GIVEN WITH THE SEED: THE CARDS: each row of YtgpmmmfnbphgdaaDoorRows.lean that lists a variable, with what it lists TIED to the program's text (the seventh form; the later family's looks); each row that meets fmt, with fmt's text TOLD by the authors' own Lean function (tested against real Go, not proved from fmt's source: count such statements apart). THE CARD IS WHAT COUNTS. Prove the row's statement (the work); the ties are given (YtgpmmmfnbphgdaaDoorTie.lean); close each card by the builder's one call (the guide's Derived/Test/ToyasCard.lean, 'card_holds'). Laid BY PROGRAM, IN A SANDBOX (cutbox-door.mjs). By AI agents, Wed Nov 11 2026. No macro, syntax, notation, axiom, sorry.
-/
import Derived.Test.YtgpmmmfnbphgdaaDoorRows
import GoSem.ClaimSeven
namespace Go.Proofs.YtgpmmmfnbphgdaaDoor
namespace Rows

/-- THE TIED CARD OF 'laws.FnChannel'. -/
def fnChannelCard : Claim7 := { stood := { row := fnChannelRow, standIns := [], harness := (true, "ac340878d1f25e9dce5692533123713a3abbbd36f3abe849b8b51a4cb56e8a62"), looks := true }, kinds := [], alts := [], laidByText := true, laidKinds := [.data, .data, .data], laidTests := true, laidLooks := .later }
def FnChannelCardSaid : Prop := Claim7.holds Tryd.pinned (.plain (OpenSpec.ofChange fnChannelSpec)) fnChannelCard

/-- THE TIED CARD OF 'laws.FnExactStepChannel'. -/
def fnExactStepChannelCard : Claim7 := { stood := { row := fnExactStepChannelRow, standIns := [], harness := (true, "ac340878d1f25e9dce5692533123713a3abbbd36f3abe849b8b51a4cb56e8a62"), looks := true }, kinds := [], alts := [], laidByText := true, laidKinds := [.data, .data, .data], laidTests := true, laidLooks := .later }
def FnExactStepChannelCardSaid : Prop := Claim7.holds Tryd.pinned (.plain (OpenSpec.ofChange fnExactStepChannelSpec)) fnExactStepChannelCard

/-- THE TIED CARD OF 'laws.FnExactCalmChannel'. -/
def fnExactCalmChannelCard : Claim7 := { stood := { row := fnExactCalmChannelRow, standIns := [], harness := (true, "ac340878d1f25e9dce5692533123713a3abbbd36f3abe849b8b51a4cb56e8a62"), looks := true }, kinds := [], alts := [], laidByText := true, laidKinds := [.data, .data, .data], laidTests := true, laidLooks := .later }
def FnExactCalmChannelCardSaid : Prop := Claim7.holds Tryd.pinned (.plain (OpenSpec.ofChange fnExactCalmChannelSpec)) fnExactCalmChannelCard

/-- THE TIED CARD OF 'laws.FnFactors'. -/
def fnFactorsCard : Claim7 := { stood := { row := fnFactorsRow, standIns := [], harness := (true, "ac340878d1f25e9dce5692533123713a3abbbd36f3abe849b8b51a4cb56e8a62"), looks := true }, kinds := [], alts := [], laidByText := true, laidKinds := [.data, .data, .data, .sentinel, .sentinel], laidTests := true, laidLooks := .later }
def FnFactorsCardSaid : Prop := Claim7.holds Tryd.pinned (.plain (OpenSpec.ofChange fnFactorsSpec)) fnFactorsCard

/-- THE TIED CARD OF 'laws.FnBundles'. -/
def fnBundlesCard : Claim7 := { stood := { row := fnBundlesRow, standIns := [], harness := (true, "ac340878d1f25e9dce5692533123713a3abbbd36f3abe849b8b51a4cb56e8a62"), looks := true }, kinds := [], alts := [], laidByText := true, laidKinds := [.data, .data, .data, .sentinel, .sentinel], laidTests := true, laidLooks := .later }
def FnBundlesCardSaid : Prop := Claim7.holds Tryd.pinned (.plain (OpenSpec.ofChange fnBundlesSpec)) fnBundlesCard

/-- THE TIED CARD OF 'laws.FnJournal'. -/
def fnJournalCard : Claim7 := { stood := { row := fnJournalRow, standIns := [], harness := (true, "ac340878d1f25e9dce5692533123713a3abbbd36f3abe849b8b51a4cb56e8a62"), looks := true }, kinds := [], alts := [], laidByText := true, laidKinds := [.data, .data, .data, .sentinel, .sentinel], laidTests := true, laidLooks := .later }
def FnJournalCardSaid : Prop := Claim7.holds Tryd.pinned (.plain (OpenSpec.ofChange fnJournalSpec)) fnJournalCard

/-- THE TIED CARD OF 'laws.FnExactParseBundle'. -/
def fnExactParseBundleCard : Claim7 := { stood := { row := fnExactParseBundleRow, standIns := [], harness := (true, "ac340878d1f25e9dce5692533123713a3abbbd36f3abe849b8b51a4cb56e8a62"), looks := true }, kinds := [], alts := [], laidByText := true, laidKinds := [.data, .data, .data, .sentinel, .sentinel], laidTests := true, laidLooks := .later }
def FnExactParseBundleCardSaid : Prop := Claim7.holds Tryd.pinned (.plain (OpenSpec.ofChange fnExactParseBundleSpec)) fnExactParseBundleCard

/-- THE TIED CARD OF 'laws.FnReplay'. -/
def fnReplayCard : Claim7 := { stood := { row := fnReplayRow, standIns := [], harness := (true, "ac340878d1f25e9dce5692533123713a3abbbd36f3abe849b8b51a4cb56e8a62"), looks := true }, kinds := [], alts := [], laidByText := true, laidKinds := [.data, .data, .data, .sentinel, .sentinel], laidTests := true, laidLooks := .later }
def FnReplayCardSaid : Prop := Claim7.holds Tryd.pinned (.plain (OpenSpec.ofChange fnReplaySpec)) fnReplayCard

/-- THE TIED CARD OF 'laws.FnExactAppendEntry'. -/
def fnExactAppendEntryCard : Claim7 := { stood := { row := fnExactAppendEntryRow, standIns := [], harness := (true, "ac340878d1f25e9dce5692533123713a3abbbd36f3abe849b8b51a4cb56e8a62"), looks := true }, kinds := [], alts := [], laidByText := true, laidKinds := [.data, .data, .data, .sentinel, .sentinel], laidTests := true, laidLooks := .later }
def FnExactAppendEntryCardSaid : Prop := Claim7.holds Tryd.pinned (.plain (OpenSpec.ofChange fnExactAppendEntrySpec)) fnExactAppendEntryCard

/-- THE TIED CARD OF 'laws.FnExactReadJournal'. -/
def fnExactReadJournalCard : Claim7 := { stood := { row := fnExactReadJournalRow, standIns := [], harness := (true, "ac340878d1f25e9dce5692533123713a3abbbd36f3abe849b8b51a4cb56e8a62"), looks := true }, kinds := [], alts := [], laidByText := true, laidKinds := [.data, .data, .data, .sentinel, .sentinel], laidTests := true, laidLooks := .later }
def FnExactReadJournalCardSaid : Prop := Claim7.holds Tryd.pinned (.plain (OpenSpec.ofChange fnExactReadJournalSpec)) fnExactReadJournalCard

/-- THE SECOND FORM's CARD OF 'laws.FnChannel'. -/
def fnChannelUptoCard : Claim7 := { stood := { row := fnChannelUptoRow, standIns := [], harness := (true, "ac340878d1f25e9dce5692533123713a3abbbd36f3abe849b8b51a4cb56e8a62"), looks := true }, kinds := [], alts := [], laidByText := true, laidKinds := [.data, .data, .data], laidTests := true, laidLooks := .later }
def FnChannelUptoCardSaid : Prop := Claim7.holds Tryd.pinned (.plain (OpenSpec.upto fnChannelSpec)) fnChannelUptoCard

/-- THE SECOND FORM's CARD OF 'laws.FnExactStepChannel'. -/
def fnExactStepChannelUptoCard : Claim7 := { stood := { row := fnExactStepChannelUptoRow, standIns := [], harness := (true, "ac340878d1f25e9dce5692533123713a3abbbd36f3abe849b8b51a4cb56e8a62"), looks := true }, kinds := [], alts := [], laidByText := true, laidKinds := [.data, .data, .data], laidTests := true, laidLooks := .later }
def FnExactStepChannelUptoCardSaid : Prop := Claim7.holds Tryd.pinned (.plain (OpenSpec.upto fnExactStepChannelSpec)) fnExactStepChannelUptoCard

/-- THE SECOND FORM's CARD OF 'laws.FnExactCalmChannel'. -/
def fnExactCalmChannelUptoCard : Claim7 := { stood := { row := fnExactCalmChannelUptoRow, standIns := [], harness := (true, "ac340878d1f25e9dce5692533123713a3abbbd36f3abe849b8b51a4cb56e8a62"), looks := true }, kinds := [], alts := [], laidByText := true, laidKinds := [.data, .data, .data], laidTests := true, laidLooks := .later }
def FnExactCalmChannelUptoCardSaid : Prop := Claim7.holds Tryd.pinned (.plain (OpenSpec.upto fnExactCalmChannelSpec)) fnExactCalmChannelUptoCard

/-- THE SECOND FORM's CARD OF 'laws.FnFactors'. -/
def fnFactorsUptoCard : Claim7 := { stood := { row := fnFactorsUptoRow, standIns := [], harness := (true, "ac340878d1f25e9dce5692533123713a3abbbd36f3abe849b8b51a4cb56e8a62"), looks := true }, kinds := [], alts := [], laidByText := true, laidKinds := [.data, .data, .data, .sentinel, .sentinel], laidTests := true, laidLooks := .later }
def FnFactorsUptoCardSaid : Prop := Claim7.holds Tryd.pinned (.plain (OpenSpec.upto fnFactorsSpec)) fnFactorsUptoCard

/-- THE SECOND FORM's CARD OF 'laws.FnBundles'. -/
def fnBundlesUptoCard : Claim7 := { stood := { row := fnBundlesUptoRow, standIns := [], harness := (true, "ac340878d1f25e9dce5692533123713a3abbbd36f3abe849b8b51a4cb56e8a62"), looks := true }, kinds := [], alts := [], laidByText := true, laidKinds := [.data, .data, .data, .sentinel, .sentinel], laidTests := true, laidLooks := .later }
def FnBundlesUptoCardSaid : Prop := Claim7.holds Tryd.pinned (.plain (OpenSpec.upto fnBundlesSpec)) fnBundlesUptoCard

/-- THE SECOND FORM's CARD OF 'laws.FnJournal'. -/
def fnJournalUptoCard : Claim7 := { stood := { row := fnJournalUptoRow, standIns := [], harness := (true, "ac340878d1f25e9dce5692533123713a3abbbd36f3abe849b8b51a4cb56e8a62"), looks := true }, kinds := [], alts := [], laidByText := true, laidKinds := [.data, .data, .data, .sentinel, .sentinel], laidTests := true, laidLooks := .later }
def FnJournalUptoCardSaid : Prop := Claim7.holds Tryd.pinned (.plain (OpenSpec.upto fnJournalSpec)) fnJournalUptoCard

/-- THE SECOND FORM's CARD OF 'laws.FnExactParseBundle'. -/
def fnExactParseBundleUptoCard : Claim7 := { stood := { row := fnExactParseBundleUptoRow, standIns := [], harness := (true, "ac340878d1f25e9dce5692533123713a3abbbd36f3abe849b8b51a4cb56e8a62"), looks := true }, kinds := [], alts := [], laidByText := true, laidKinds := [.data, .data, .data, .sentinel, .sentinel], laidTests := true, laidLooks := .later }
def FnExactParseBundleUptoCardSaid : Prop := Claim7.holds Tryd.pinned (.plain (OpenSpec.upto fnExactParseBundleSpec)) fnExactParseBundleUptoCard

/-- THE SECOND FORM's CARD OF 'laws.FnReplay'. -/
def fnReplayUptoCard : Claim7 := { stood := { row := fnReplayUptoRow, standIns := [], harness := (true, "ac340878d1f25e9dce5692533123713a3abbbd36f3abe849b8b51a4cb56e8a62"), looks := true }, kinds := [], alts := [], laidByText := true, laidKinds := [.data, .data, .data, .sentinel, .sentinel], laidTests := true, laidLooks := .later }
def FnReplayUptoCardSaid : Prop := Claim7.holds Tryd.pinned (.plain (OpenSpec.upto fnReplaySpec)) fnReplayUptoCard

/-- THE SECOND FORM's CARD OF 'laws.FnExactAppendEntry'. -/
def fnExactAppendEntryUptoCard : Claim7 := { stood := { row := fnExactAppendEntryUptoRow, standIns := [], harness := (true, "ac340878d1f25e9dce5692533123713a3abbbd36f3abe849b8b51a4cb56e8a62"), looks := true }, kinds := [], alts := [], laidByText := true, laidKinds := [.data, .data, .data, .sentinel, .sentinel], laidTests := true, laidLooks := .later }
def FnExactAppendEntryUptoCardSaid : Prop := Claim7.holds Tryd.pinned (.plain (OpenSpec.upto fnExactAppendEntrySpec)) fnExactAppendEntryUptoCard

/-- THE SECOND FORM's CARD OF 'laws.FnExactReadJournal'. -/
def fnExactReadJournalUptoCard : Claim7 := { stood := { row := fnExactReadJournalUptoRow, standIns := [], harness := (true, "ac340878d1f25e9dce5692533123713a3abbbd36f3abe849b8b51a4cb56e8a62"), looks := true }, kinds := [], alts := [], laidByText := true, laidKinds := [.data, .data, .data, .sentinel, .sentinel], laidTests := true, laidLooks := .later }
def FnExactReadJournalUptoCardSaid : Prop := Claim7.holds Tryd.pinned (.plain (OpenSpec.upto fnExactReadJournalSpec)) fnExactReadJournalUptoCard
end Rows
end Go.Proofs.YtgpmmmfnbphgdaaDoor
