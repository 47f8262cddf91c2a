/- Texts of this proof, one behind the other: TmV. -/
import Derived.Test.YtdfemnffpaopfaaGreatDoorGmf27
import Derived.Test.YtdfemnffpaopfaaGreatDoorGmf28
import Derived.Test.YtdfemnffpaopfaaGreatDoorGmf34
import Derived.Test.YtdfemnffpaopfaaGreatDoorGmf36
namespace Go.Proofs.YtdfemnffpaopfaaGreatDoor
open Go.RowKit
set_option linter.unusedVariables false
set_option linter.unusedSimpArgs false
set_option maxHeartbeats 12000000
set_option maxRecDepth 100000

end Go.Proofs.YtdfemnffpaopfaaGreatDoor
