/- Texts of this proof, one behind the other: ChnC. -/
import Derived.Deep.RegionLaw
import Derived.BigRegion
import Derived.Test.YtdfemnffpaopfaaGreatDoorGmf27
import Derived.Test.YtdfemnffpaopfaaGreatDoorGmf29
namespace Go.Proofs.YtdfemnffpaopfaaGreatDoor
open Go.RowKit
set_option linter.unusedVariables false
set_option linter.unusedSimpArgs false
set_option maxHeartbeats 1000000
set_option maxRecDepth 100000

end Go.Proofs.YtdfemnffpaopfaaGreatDoor
