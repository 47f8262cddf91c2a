/- Texts of this proof, one behind the other: Draw. -/
import Derived.BigQuiet
import Derived.Lib.Hide
import Derived.Test.YtdfemnffpaopfaaGreatDoorGmf0
import Derived.Test.YtdfemnffpaopfaaGreatDoorGmf3
namespace Go.Proofs.YtdfemnffpaopfaaGreatDoor
open Go.RowKit
set_option linter.unusedVariables false
set_option linter.unusedSimpArgs false
set_option maxHeartbeats 1000000
set_option maxRecDepth 100000

end Go.Proofs.YtdfemnffpaopfaaGreatDoor
