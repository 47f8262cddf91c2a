/- Texts of this proof, one behind the other: Draw7, FctP, BdlP, TmP. -/
import Derived.Test.YtdfemnffpaopfaaGreatDoorGmf3
import Derived.Test.YtdfemnffpaopfaaGreatDoorGmf7
import Derived.Test.YtdfemnffpaopfaaGreatDoorGmf10
import Derived.Test.YtdfemnffpaopfaaGreatDoorGmf13
namespace Go.Proofs.YtdfemnffpaopfaaGreatDoor
open Go.RowKit
set_option linter.unusedVariables false
set_option linter.unusedSimpArgs false
set_option maxHeartbeats 1000000
set_option maxRecDepth 100000




end Go.Proofs.YtdfemnffpaopfaaGreatDoor
