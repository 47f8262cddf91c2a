/- Texts of this proof, one behind the other: Draw6. -/
import Derived.Deep.RegionLaw
import Derived.Deep.RegionHeld3
import Derived.BigRegion
import Derived.Deep.DeepCutAuto
import Derived.Test.YtdfemnffpaopfaaGreatDoorGmf6
import Derived.Test.YtdfemnffpaopfaaGreatDoorGmf7
import Derived.Test.YtdfemnffpaopfaaGreatDoorGmf9
namespace Go.Proofs.YtdfemnffpaopfaaGreatDoor
open Go.RowKit
set_option linter.unusedVariables false
set_option linter.unusedSimpArgs false
set_option maxHeartbeats 4000000
set_option maxRecDepth 100000

end Go.Proofs.YtdfemnffpaopfaaGreatDoor
