/-
  DERIVED. GIVEN WITH THE SEED: THE CARDS: each row of YtcnbphnnfmphlaaGreatDoorRows.lean that lists a variable, with what it lists TIED to the program's text (the seventh form; the later family's looks); each row that meets fmt, with fmt's text TOLD by the authors' own Lean function (tested against real Go, not proved from fmt's source: count such statements apart). THE CARD IS WHAT COUNTS. Prove the row's statement (the work); the ties are given (YtcnbphnnfmphlaaGreatDoorTie.lean); close each card by the builder's one call (the guide's Derived/Test/ToyasCard.lean, 'card_holds'). Laid BY PROGRAM, IN A SANDBOX (cutbox-door.mjs). By AI agents, Wed Nov 11 2026. No macro, syntax, notation, axiom, sorry.
-/
import Derived.Test.YtcnbphnnfmphlaaGreatDoorRows
import GoSem.ClaimSeven
namespace Go.Proofs.YtcnbphnnfmphlaaGreatDoor
namespace Rows

/-- THE TIED CARD OF 'laws.FnTeam'. -/
def fnTeamCard : Claim7 := { stood := { row := fnTeamRow, standIns := [], harness := (true, "87453a47a594ddc198eae2dece3d78ace7401016cf3efdcceff9241b5ceb1a41"), looks := true }, kinds := [], alts := [], laidByText := true, laidKinds := [.data, .data, .data, .sentinel, .sentinel], laidTests := true, laidLooks := .later }
def FnTeamCardSaid : Prop := Claim7.holds Tryz.pinned (.plain (OpenSpec.ofChange fnTeamSpec)) fnTeamCard

/-- THE SECOND FORM's CARD OF 'laws.FnTeam'. -/
def fnTeamUptoCard : Claim7 := { stood := { row := fnTeamUptoRow, standIns := [], harness := (true, "87453a47a594ddc198eae2dece3d78ace7401016cf3efdcceff9241b5ceb1a41"), looks := true }, kinds := [], alts := [], laidByText := true, laidKinds := [.data, .data, .data, .sentinel, .sentinel], laidTests := true, laidLooks := .later }
def FnTeamUptoCardSaid : Prop := Claim7.holds Tryz.pinned (.plain (OpenSpec.upto fnTeamSpec)) fnTeamUptoCard
end Rows
end Go.Proofs.YtcnbphnnfmphlaaGreatDoor
