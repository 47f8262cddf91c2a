/-
  DERIVED. GIVEN WITH THE SEED: THE CARDS: each row of YtdfemnffpaopfaaGreatDoorRows.lean that lists a variable, with what it lists TIED to the program's text (the seventh form; the later family's looks); each row that meets fmt, with fmt's text TOLD by the authors' own Lean function (tested against real Go, not proved from fmt's source: count such statements apart). THE CARD IS WHAT COUNTS. Prove the row's statement (the work); the ties are given (YtdfemnffpaopfaaGreatDoorTie.lean); close each card by the builder's one call (the guide's Derived/Test/ToyasCard.lean, 'card_holds'). Laid BY PROGRAM, IN A SANDBOX (cutbox-door.mjs). By AI agents, Wed Nov 11 2026. No macro, syntax, notation, axiom, sorry.
-/
import Derived.Test.YtdfemnffpaopfaaGreatDoorRows
import GoSem.ClaimSeven
namespace Go.Proofs.YtdfemnffpaopfaaGreatDoor
namespace Rows

/-- THE TIED CARD OF 'laws.FnRestart'. -/
def fnRestartCard : Claim7 := { stood := { row := fnRestartRow, standIns := [], harness := (true, "62edb0cf0e0f554091319d6c7cebfece6661a9701eefa0644ef81a86bdca5388"), looks := true }, kinds := [], alts := [], laidByText := true, laidKinds := [.data, .data, .data, .sentinel, .sentinel], laidTests := true, laidLooks := .later }
def FnRestartCardSaid : Prop := Claim7.holds Tryz.pinned (.plain (OpenSpec.ofChange fnRestartSpec)) fnRestartCard

/-- THE TIED CARD OF 'laws.FnExactRestartRobot'. -/
def fnExactRestartRobotCard : Claim7 := { stood := { row := fnExactRestartRobotRow, standIns := [], harness := (true, "62edb0cf0e0f554091319d6c7cebfece6661a9701eefa0644ef81a86bdca5388"), looks := true }, kinds := [], alts := [], laidByText := true, laidKinds := [.data, .data, .data, .sentinel, .sentinel], laidTests := true, laidLooks := .later }
def FnExactRestartRobotCardSaid : Prop := Claim7.holds Tryz.pinned (.plain (OpenSpec.ofChange fnExactRestartRobotSpec)) fnExactRestartRobotCard

/-- THE TIED CARD OF 'laws.FnExactMeasure'. -/
def fnExactMeasureCard : Claim7 := { stood := { row := fnExactMeasureRow, standIns := [], harness := (true, "62edb0cf0e0f554091319d6c7cebfece6661a9701eefa0644ef81a86bdca5388"), looks := true }, kinds := [], alts := [], laidByText := true, laidKinds := [.data, .data, .data, .sentinel, .sentinel], laidTests := true, laidLooks := .later }
def FnExactMeasureCardSaid : Prop := Claim7.holds Tryz.pinned (.plain (OpenSpec.ofChange fnExactMeasureSpec)) fnExactMeasureCard

/-- THE TIED CARD OF 'laws.FnExactMoveTeam'. -/
def fnExactMoveTeamCard : Claim7 := { stood := { row := fnExactMoveTeamRow, standIns := [], harness := (true, "62edb0cf0e0f554091319d6c7cebfece6661a9701eefa0644ef81a86bdca5388"), looks := true }, kinds := [], alts := [], laidByText := true, laidKinds := [.data, .data, .data, .sentinel, .sentinel], laidTests := true, laidLooks := .later }
def FnExactMoveTeamCardSaid : Prop := Claim7.holds Tryz.pinned (.plain (OpenSpec.ofChange fnExactMoveTeamSpec)) fnExactMoveTeamCard

/-- THE TIED CARD OF 'laws.FnExactCalmTeam'. -/
def fnExactCalmTeamCard : Claim7 := { stood := { row := fnExactCalmTeamRow, standIns := [], harness := (true, "62edb0cf0e0f554091319d6c7cebfece6661a9701eefa0644ef81a86bdca5388"), looks := true }, kinds := [], alts := [], laidByText := true, laidKinds := [.data, .data, .data, .sentinel, .sentinel], laidTests := true, laidLooks := .later }
def FnExactCalmTeamCardSaid : Prop := Claim7.holds Tryz.pinned (.plain (OpenSpec.ofChange fnExactCalmTeamSpec)) fnExactCalmTeamCard

/-- THE SECOND FORM's CARD OF 'laws.FnRestart'. -/
def fnRestartUptoCard : Claim7 := { stood := { row := fnRestartUptoRow, standIns := [], harness := (true, "62edb0cf0e0f554091319d6c7cebfece6661a9701eefa0644ef81a86bdca5388"), looks := true }, kinds := [], alts := [], laidByText := true, laidKinds := [.data, .data, .data, .sentinel, .sentinel], laidTests := true, laidLooks := .later }
def FnRestartUptoCardSaid : Prop := Claim7.holds Tryz.pinned (.plain (OpenSpec.upto fnRestartSpec)) fnRestartUptoCard

/-- THE SECOND FORM's CARD OF 'laws.FnExactRestartRobot'. -/
def fnExactRestartRobotUptoCard : Claim7 := { stood := { row := fnExactRestartRobotUptoRow, standIns := [], harness := (true, "62edb0cf0e0f554091319d6c7cebfece6661a9701eefa0644ef81a86bdca5388"), looks := true }, kinds := [], alts := [], laidByText := true, laidKinds := [.data, .data, .data, .sentinel, .sentinel], laidTests := true, laidLooks := .later }
def FnExactRestartRobotUptoCardSaid : Prop := Claim7.holds Tryz.pinned (.plain (OpenSpec.upto fnExactRestartRobotSpec)) fnExactRestartRobotUptoCard

/-- THE SECOND FORM's CARD OF 'laws.FnExactMeasure'. -/
def fnExactMeasureUptoCard : Claim7 := { stood := { row := fnExactMeasureUptoRow, standIns := [], harness := (true, "62edb0cf0e0f554091319d6c7cebfece6661a9701eefa0644ef81a86bdca5388"), looks := true }, kinds := [], alts := [], laidByText := true, laidKinds := [.data, .data, .data, .sentinel, .sentinel], laidTests := true, laidLooks := .later }
def FnExactMeasureUptoCardSaid : Prop := Claim7.holds Tryz.pinned (.plain (OpenSpec.upto fnExactMeasureSpec)) fnExactMeasureUptoCard

/-- THE SECOND FORM's CARD OF 'laws.FnExactMoveTeam'. -/
def fnExactMoveTeamUptoCard : Claim7 := { stood := { row := fnExactMoveTeamUptoRow, standIns := [], harness := (true, "62edb0cf0e0f554091319d6c7cebfece6661a9701eefa0644ef81a86bdca5388"), looks := true }, kinds := [], alts := [], laidByText := true, laidKinds := [.data, .data, .data, .sentinel, .sentinel], laidTests := true, laidLooks := .later }
def FnExactMoveTeamUptoCardSaid : Prop := Claim7.holds Tryz.pinned (.plain (OpenSpec.upto fnExactMoveTeamSpec)) fnExactMoveTeamUptoCard

/-- THE SECOND FORM's CARD OF 'laws.FnExactCalmTeam'. -/
def fnExactCalmTeamUptoCard : Claim7 := { stood := { row := fnExactCalmTeamUptoRow, standIns := [], harness := (true, "62edb0cf0e0f554091319d6c7cebfece6661a9701eefa0644ef81a86bdca5388"), looks := true }, kinds := [], alts := [], laidByText := true, laidKinds := [.data, .data, .data, .sentinel, .sentinel], laidTests := true, laidLooks := .later }
def FnExactCalmTeamUptoCardSaid : Prop := Claim7.holds Tryz.pinned (.plain (OpenSpec.upto fnExactCalmTeamSpec)) fnExactCalmTeamUptoCard
end Rows
end Go.Proofs.YtdfemnffpaopfaaGreatDoor
