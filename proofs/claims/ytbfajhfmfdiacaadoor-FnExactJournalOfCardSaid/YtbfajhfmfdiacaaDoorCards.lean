/-
  DERIVED. GIVEN WITH THE SEED: THE CARDS: each row of YtbfajhfmfdiacaaDoorRows.lean that lists a variable, with what it lists TIED to the program's text (the seventh form; the later family's looks); each row that meets fmt, with fmt's text TOLD by the authors' own Lean function (tested against real Go, not proved from fmt's source: count such statements apart). THE CARD IS WHAT COUNTS. Prove the row's statement (the work); the ties are given (YtbfajhfmfdiacaaDoorTie.lean); close each card by the builder's one call (the guide's Derived/Test/ToyasCard.lean, 'card_holds'). Laid BY PROGRAM, IN A SANDBOX (cutbox-door.mjs). By AI agents, Wed Nov 11 2026. No macro, syntax, notation, axiom, sorry.
-/
import Derived.Test.YtbfajhfmfdiacaaDoorRows
import GoSem.ClaimSeven
namespace Go.Proofs.YtbfajhfmfdiacaaDoor
namespace Rows

/-- THE TIED CARD OF 'laws.FnChannel'. -/
def fnChannelCard : Claim7 := { stood := { row := fnChannelRow, standIns := [], harness := (true, "0ce68a8ee01395cc4ac80d50ae6f42f2fea413423b2c8a4d06765104cc8aa644"), looks := false }, kinds := [], alts := [], laidByText := true, laidKinds := [.data, .data, .data], laidTests := true, laidLooks := .later }
def FnChannelCardSaid : Prop := Claim7.holds Tryd.pinned (.plain (OpenSpec.ofChange fnChannelSpec)) fnChannelCard

/-- THE TIED CARD OF 'laws.FnExactPacketSum'. -/
def fnExactPacketSumCard : Claim7 := { stood := { row := fnExactPacketSumRow, standIns := [], harness := (true, "0ce68a8ee01395cc4ac80d50ae6f42f2fea413423b2c8a4d06765104cc8aa644"), looks := false }, kinds := [], alts := [], laidByText := true, laidKinds := [.data, .data, .data], laidTests := true, laidLooks := .later }
def FnExactPacketSumCardSaid : Prop := Claim7.holds Tryd.pinned (.plain (OpenSpec.ofChange fnExactPacketSumSpec)) fnExactPacketSumCard

/-- THE TIED CARD OF 'laws.FnExactIsIntact'. -/
def fnExactIsIntactCard : Claim7 := { stood := { row := fnExactIsIntactRow, standIns := [], harness := (true, "0ce68a8ee01395cc4ac80d50ae6f42f2fea413423b2c8a4d06765104cc8aa644"), looks := false }, kinds := [], alts := [], laidByText := true, laidKinds := [.data, .data, .data], laidTests := true, laidLooks := .later }
def FnExactIsIntactCardSaid : Prop := Claim7.holds Tryd.pinned (.plain (OpenSpec.ofChange fnExactIsIntactSpec)) fnExactIsIntactCard

/-- THE TIED CARD OF 'laws.FnExactFormatEntry'. -/
def fnExactFormatEntryCard : Claim7 := { stood := { row := fnExactFormatEntryRow, standIns := [], harness := (true, "0ce68a8ee01395cc4ac80d50ae6f42f2fea413423b2c8a4d06765104cc8aa644"), looks := false }, kinds := [], alts := [], laidByText := true, laidKinds := [.data, .data, .data], laidTests := true, laidLooks := .later }
def FnExactFormatEntryCardSaid : Prop := Claim7.holds Tryd.pinned (.plain (OpenSpec.ofChange fnExactFormatEntrySpec)) fnExactFormatEntryCard

/-- THE TIED CARD OF 'laws.FnExactListDigest'. -/
def fnExactListDigestCard : Claim7 := { stood := { row := fnExactListDigestRow, standIns := [], harness := (true, "0ce68a8ee01395cc4ac80d50ae6f42f2fea413423b2c8a4d06765104cc8aa644"), looks := false }, kinds := [], alts := [], laidByText := true, laidKinds := [.data, .data, .data], laidTests := true, laidLooks := .later }
def FnExactListDigestCardSaid : Prop := Claim7.holds Tryd.pinned (.plain (OpenSpec.ofChange fnExactListDigestSpec)) fnExactListDigestCard

/-- THE TIED CARD OF 'laws.FnExactFormatBundle'. -/
def fnExactFormatBundleCard : Claim7 := { stood := { row := fnExactFormatBundleRow, standIns := [], harness := (true, "0ce68a8ee01395cc4ac80d50ae6f42f2fea413423b2c8a4d06765104cc8aa644"), looks := false }, kinds := [], alts := [], laidByText := true, laidKinds := [.data, .data, .data], laidTests := true, laidLooks := .later }
def FnExactFormatBundleCardSaid : Prop := Claim7.holds Tryd.pinned (.plain (OpenSpec.ofChange fnExactFormatBundleSpec)) fnExactFormatBundleCard

/-- THE TIED CARD OF 'laws.FnExactJournalOf'. -/
def fnExactJournalOfCard : Claim7 := { stood := { row := fnExactJournalOfRow, standIns := [], harness := (true, "0ce68a8ee01395cc4ac80d50ae6f42f2fea413423b2c8a4d06765104cc8aa644"), looks := false }, kinds := [], alts := [], laidByText := true, laidKinds := [.data, .data, .data], laidTests := true, laidLooks := .later }
def FnExactJournalOfCardSaid : Prop := Claim7.holds Tryd.pinned (.plain (OpenSpec.ofChange fnExactJournalOfSpec)) fnExactJournalOfCard

/-- THE TIED CARD OF 'laws.FnExactStepChannel'. -/
def fnExactStepChannelCard : Claim7 := { stood := { row := fnExactStepChannelRow, standIns := [], harness := (true, "0ce68a8ee01395cc4ac80d50ae6f42f2fea413423b2c8a4d06765104cc8aa644"), looks := false }, kinds := [], alts := [], laidByText := true, laidKinds := [.data, .data, .data], laidTests := true, laidLooks := .later }
def FnExactStepChannelCardSaid : Prop := Claim7.holds Tryd.pinned (.plain (OpenSpec.ofChange fnExactStepChannelSpec)) fnExactStepChannelCard

/-- THE TIED CARD OF 'laws.FnExactCalmChannel'. -/
def fnExactCalmChannelCard : Claim7 := { stood := { row := fnExactCalmChannelRow, standIns := [], harness := (true, "0ce68a8ee01395cc4ac80d50ae6f42f2fea413423b2c8a4d06765104cc8aa644"), looks := false }, kinds := [], alts := [], laidByText := true, laidKinds := [.data, .data, .data], laidTests := true, laidLooks := .later }
def FnExactCalmChannelCardSaid : Prop := Claim7.holds Tryd.pinned (.plain (OpenSpec.ofChange fnExactCalmChannelSpec)) fnExactCalmChannelCard

/-- THE SECOND FORM's CARD OF 'laws.FnChannel'. -/
def fnChannelUptoCard : Claim7 := { stood := { row := fnChannelUptoRow, standIns := [], harness := (true, "0ce68a8ee01395cc4ac80d50ae6f42f2fea413423b2c8a4d06765104cc8aa644"), looks := false }, kinds := [], alts := [], laidByText := true, laidKinds := [.data, .data, .data], laidTests := true, laidLooks := .later }
def FnChannelUptoCardSaid : Prop := Claim7.holds Tryd.pinned (.plain (OpenSpec.upto fnChannelSpec)) fnChannelUptoCard

/-- THE SECOND FORM's CARD OF 'laws.FnExactPacketSum'. -/
def fnExactPacketSumUptoCard : Claim7 := { stood := { row := fnExactPacketSumUptoRow, standIns := [], harness := (true, "0ce68a8ee01395cc4ac80d50ae6f42f2fea413423b2c8a4d06765104cc8aa644"), looks := false }, kinds := [], alts := [], laidByText := true, laidKinds := [.data, .data, .data], laidTests := true, laidLooks := .later }
def FnExactPacketSumUptoCardSaid : Prop := Claim7.holds Tryd.pinned (.plain (OpenSpec.upto fnExactPacketSumSpec)) fnExactPacketSumUptoCard

/-- THE SECOND FORM's CARD OF 'laws.FnExactIsIntact'. -/
def fnExactIsIntactUptoCard : Claim7 := { stood := { row := fnExactIsIntactUptoRow, standIns := [], harness := (true, "0ce68a8ee01395cc4ac80d50ae6f42f2fea413423b2c8a4d06765104cc8aa644"), looks := false }, kinds := [], alts := [], laidByText := true, laidKinds := [.data, .data, .data], laidTests := true, laidLooks := .later }
def FnExactIsIntactUptoCardSaid : Prop := Claim7.holds Tryd.pinned (.plain (OpenSpec.upto fnExactIsIntactSpec)) fnExactIsIntactUptoCard

/-- THE SECOND FORM's CARD OF 'laws.FnExactFormatEntry'. -/
def fnExactFormatEntryUptoCard : Claim7 := { stood := { row := fnExactFormatEntryUptoRow, standIns := [], harness := (true, "0ce68a8ee01395cc4ac80d50ae6f42f2fea413423b2c8a4d06765104cc8aa644"), looks := false }, kinds := [], alts := [], laidByText := true, laidKinds := [.data, .data, .data], laidTests := true, laidLooks := .later }
def FnExactFormatEntryUptoCardSaid : Prop := Claim7.holds Tryd.pinned (.plain (OpenSpec.upto fnExactFormatEntrySpec)) fnExactFormatEntryUptoCard

/-- THE SECOND FORM's CARD OF 'laws.FnExactListDigest'. -/
def fnExactListDigestUptoCard : Claim7 := { stood := { row := fnExactListDigestUptoRow, standIns := [], harness := (true, "0ce68a8ee01395cc4ac80d50ae6f42f2fea413423b2c8a4d06765104cc8aa644"), looks := false }, kinds := [], alts := [], laidByText := true, laidKinds := [.data, .data, .data], laidTests := true, laidLooks := .later }
def FnExactListDigestUptoCardSaid : Prop := Claim7.holds Tryd.pinned (.plain (OpenSpec.upto fnExactListDigestSpec)) fnExactListDigestUptoCard

/-- THE SECOND FORM's CARD OF 'laws.FnExactFormatBundle'. -/
def fnExactFormatBundleUptoCard : Claim7 := { stood := { row := fnExactFormatBundleUptoRow, standIns := [], harness := (true, "0ce68a8ee01395cc4ac80d50ae6f42f2fea413423b2c8a4d06765104cc8aa644"), looks := false }, kinds := [], alts := [], laidByText := true, laidKinds := [.data, .data, .data], laidTests := true, laidLooks := .later }
def FnExactFormatBundleUptoCardSaid : Prop := Claim7.holds Tryd.pinned (.plain (OpenSpec.upto fnExactFormatBundleSpec)) fnExactFormatBundleUptoCard

/-- THE SECOND FORM's CARD OF 'laws.FnExactJournalOf'. -/
def fnExactJournalOfUptoCard : Claim7 := { stood := { row := fnExactJournalOfUptoRow, standIns := [], harness := (true, "0ce68a8ee01395cc4ac80d50ae6f42f2fea413423b2c8a4d06765104cc8aa644"), looks := false }, kinds := [], alts := [], laidByText := true, laidKinds := [.data, .data, .data], laidTests := true, laidLooks := .later }
def FnExactJournalOfUptoCardSaid : Prop := Claim7.holds Tryd.pinned (.plain (OpenSpec.upto fnExactJournalOfSpec)) fnExactJournalOfUptoCard

/-- THE SECOND FORM's CARD OF 'laws.FnExactStepChannel'. -/
def fnExactStepChannelUptoCard : Claim7 := { stood := { row := fnExactStepChannelUptoRow, standIns := [], harness := (true, "0ce68a8ee01395cc4ac80d50ae6f42f2fea413423b2c8a4d06765104cc8aa644"), looks := false }, kinds := [], alts := [], laidByText := true, laidKinds := [.data, .data, .data], laidTests := true, laidLooks := .later }
def FnExactStepChannelUptoCardSaid : Prop := Claim7.holds Tryd.pinned (.plain (OpenSpec.upto fnExactStepChannelSpec)) fnExactStepChannelUptoCard

/-- THE SECOND FORM's CARD OF 'laws.FnExactCalmChannel'. -/
def fnExactCalmChannelUptoCard : Claim7 := { stood := { row := fnExactCalmChannelUptoRow, standIns := [], harness := (true, "0ce68a8ee01395cc4ac80d50ae6f42f2fea413423b2c8a4d06765104cc8aa644"), looks := false }, kinds := [], alts := [], laidByText := true, laidKinds := [.data, .data, .data], laidTests := true, laidLooks := .later }
def FnExactCalmChannelUptoCardSaid : Prop := Claim7.holds Tryd.pinned (.plain (OpenSpec.upto fnExactCalmChannelSpec)) fnExactCalmChannelUptoCard
end Rows
end Go.Proofs.YtbfajhfmfdiacaaDoor
