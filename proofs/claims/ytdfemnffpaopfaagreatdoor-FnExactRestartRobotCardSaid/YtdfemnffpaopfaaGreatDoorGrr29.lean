/- Texts of this proof, one behind the other: FBun. -/
import Derived.Test.YtdfemnffpaopfaaGreatDoorGrr8
import Derived.Test.YtdfemnffpaopfaaGreatDoorGrr25
import Derived.Test.YtdfemnffpaopfaaGreatDoorGrr26
/- FormatBundle: what the two answer. -/
namespace Go.Proofs.YtdfemnffpaopfaaGreatDoor
open Go.RowKit
set_option linter.unusedVariables false
set_option linter.unusedSimpArgs false
set_option maxHeartbeats 1000000
set_option maxRecDepth 100000
end Go.Proofs.YtdfemnffpaopfaaGreatDoor

