/- Texts of this proof, one behind the other: Mark. -/
import Derived.Test.YtdfemnffpaopfaaGreatDoorProg
import Derived.Deep.RegionHeld3
import Derived.Test.YtdfemnffpaopfaaGreatDoorGrs2
namespace Go.Proofs.YtdfemnffpaopfaaGreatDoor
open Go.RowKit
set_option linter.unusedVariables false
set_option linter.unusedSimpArgs false
set_option maxHeartbeats 400000
set_option maxRecDepth 100000
def MI (k:Int):Prop:=k≤9223372036854775807
theorem MI.of {k:Int} (h:k≤1000000000000):MI k:=by unfold MI;omega
end Go.Proofs.YtdfemnffpaopfaaGreatDoor
