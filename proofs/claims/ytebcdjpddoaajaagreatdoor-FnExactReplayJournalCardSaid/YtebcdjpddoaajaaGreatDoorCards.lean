/-
  DERIVED. GIVEN WITH THE SEED: THE CARDS: each row of YtebcdjpddoaajaaGreatDoorRows.lean that lists a variable, with what it lists TIED to the program's text (the seventh form; the later family's looks); each row that meets fmt, with fmt's text TOLD by the authors' own Lean function (tested against real Go, not proved from fmt's source: count such statements apart). THE CARD IS WHAT COUNTS. Prove the row's statement (the work); the ties are given (YtebcdjpddoaajaaGreatDoorTie.lean); close each card by the builder's one call (the guide's Derived/Test/ToyasCard.lean, 'card_holds'). Laid BY PROGRAM, IN A SANDBOX (cutbox-door.mjs). By AI agents, Wed Nov 11 2026. No macro, syntax, notation, axiom, sorry.
-/
import Derived.Test.YtebcdjpddoaajaaGreatDoorRows
import GoSem.ClaimSeven
namespace Go.Proofs.YtebcdjpddoaajaaGreatDoor
namespace Rows

/-- THE TIED CARD OF 'laws.FnExactReplayJournal'. -/
def fnExactReplayJournalCard : Claim7 := { stood := { row := fnExactReplayJournalRow, standIns := [], harness := (true, "7cdf15dc906f05aafe61a12ec8daef5643651aed883a9184f0afb4529c8fcc8e"), looks := true }, kinds := [], alts := [], laidByText := true, laidKinds := [.data, .data, .data, .sentinel, .sentinel], laidTests := true, laidLooks := .later }
def FnExactReplayJournalCardSaid : Prop := Claim7.holds Tryz.pinned (.plain (OpenSpec.ofChange fnExactReplayJournalSpec)) fnExactReplayJournalCard

/-- THE TIED CARD OF 'laws.FnRestart'. -/
def fnRestartCard : Claim7 := { stood := { row := fnRestartRow, standIns := [], harness := (true, "7cdf15dc906f05aafe61a12ec8daef5643651aed883a9184f0afb4529c8fcc8e"), looks := true }, kinds := [], alts := [], laidByText := true, laidKinds := [.data, .data, .data, .sentinel, .sentinel], laidTests := true, laidLooks := .later }
def FnRestartCardSaid : Prop := Claim7.holds Tryz.pinned (.plain (OpenSpec.ofChange fnRestartSpec)) fnRestartCard

/-- THE SECOND FORM's CARD OF 'laws.FnExactReplayJournal'. -/
def fnExactReplayJournalUptoCard : Claim7 := { stood := { row := fnExactReplayJournalUptoRow, standIns := [], harness := (true, "7cdf15dc906f05aafe61a12ec8daef5643651aed883a9184f0afb4529c8fcc8e"), looks := true }, kinds := [], alts := [], laidByText := true, laidKinds := [.data, .data, .data, .sentinel, .sentinel], laidTests := true, laidLooks := .later }
def FnExactReplayJournalUptoCardSaid : Prop := Claim7.holds Tryz.pinned (.plain (OpenSpec.upto fnExactReplayJournalSpec)) fnExactReplayJournalUptoCard

/-- THE SECOND FORM's CARD OF 'laws.FnRestart'. -/
def fnRestartUptoCard : Claim7 := { stood := { row := fnRestartUptoRow, standIns := [], harness := (true, "7cdf15dc906f05aafe61a12ec8daef5643651aed883a9184f0afb4529c8fcc8e"), looks := true }, kinds := [], alts := [], laidByText := true, laidKinds := [.data, .data, .data, .sentinel, .sentinel], laidTests := true, laidLooks := .later }
def FnRestartUptoCardSaid : Prop := Claim7.holds Tryz.pinned (.plain (OpenSpec.upto fnRestartSpec)) fnRestartUptoCard
end Rows
end Go.Proofs.YtebcdjpddoaajaaGreatDoor
