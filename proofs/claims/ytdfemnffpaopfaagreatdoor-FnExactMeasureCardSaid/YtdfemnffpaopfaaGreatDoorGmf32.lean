/- Texts of this proof, one behind the other: ChnA. -/
import Derived.Test.YtdfemnffpaopfaaGreatDoorGmf31
namespace Go.Proofs.YtdfemnffpaopfaaGreatDoor
open Go.RowKit
set_option linter.unusedVariables false
set_option linter.unusedSimpArgs false
set_option maxHeartbeats 2000000
set_option maxRecDepth 100000

end Go.Proofs.YtdfemnffpaopfaaGreatDoor
