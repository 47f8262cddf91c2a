/- Texts of this proof, one behind the other: Pkt. -/
import Derived.Test.YtdfemnffpaopfaaGreatDoorGrr6
import Derived.Test.YtdfemnffpaopfaaGreatDoorGrr8
import Derived.Test.YtdfemnffpaopfaaGreatDoorGrr20
/- PacketSum, IsIntact: what the two of each answer; the walks of their laws. -/
namespace Go.Proofs.YtdfemnffpaopfaaGreatDoor
open Go.RowKit
set_option linter.unusedVariables false
set_option linter.unusedSimpArgs false
set_option maxHeartbeats 1000000
set_option maxRecDepth 100000
end Go.Proofs.YtdfemnffpaopfaaGreatDoor

