/- Texts of this proof, one behind the other: ChnI3, ChnJ. -/
import Derived.Test.YtdfemnffpaopfaaGreatDoorGmf33
import Derived.Test.YtdfemnffpaopfaaGreatDoorGmf38
namespace Go.Proofs.YtdfemnffpaopfaaGreatDoor
open Go.RowKit
set_option linter.unusedVariables false
set_option linter.unusedSimpArgs false
set_option maxHeartbeats 4000000
set_option maxRecDepth 100000


end Go.Proofs.YtdfemnffpaopfaaGreatDoor
