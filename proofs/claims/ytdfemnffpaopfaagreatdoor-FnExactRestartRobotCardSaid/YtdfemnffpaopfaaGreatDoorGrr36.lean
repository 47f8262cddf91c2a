/- Texts of this proof, one behind the other: ChnC. -/
import Derived.Deep.RegionLaw
import Derived.BigRegion
import Derived.Test.YtdfemnffpaopfaaGreatDoorGrr33
import Derived.Test.YtdfemnffpaopfaaGreatDoorGrr35
/- Packets are put, made, dropped, chosen: program and reference. -/
namespace Go.Proofs.YtdfemnffpaopfaaGreatDoor
open Go.RowKit
set_option linter.unusedVariables false
set_option linter.unusedSimpArgs false
set_option maxHeartbeats 1000000
set_option maxRecDepth 100000
end Go.Proofs.YtdfemnffpaopfaaGreatDoor

