/- Texts of this proof, one behind the other: ChnV. -/
import Derived.Deep.RegionHeld3
import Derived.Test.YtdfemnffpaopfaaGreatDoorGmf30
namespace Go.Proofs.YtdfemnffpaopfaaGreatDoor
open Go.RowKit
set_option linter.unusedVariables false
set_option linter.unusedSimpArgs false
set_option maxHeartbeats 2000000
set_option maxRecDepth 100000

end Go.Proofs.YtdfemnffpaopfaaGreatDoor
