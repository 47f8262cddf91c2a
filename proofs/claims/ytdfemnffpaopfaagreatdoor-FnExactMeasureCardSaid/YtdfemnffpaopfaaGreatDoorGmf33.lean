/- Texts of this proof, one behind the other: ChnS, ChnO, ChnKP, ChnT, ChnI0. -/
import Derived.Test.YtdfemnffpaopfaaGreatDoorGmf6
import Derived.Test.YtdfemnffpaopfaaGreatDoorGmf32
namespace Go.Proofs.YtdfemnffpaopfaaGreatDoor
open Go.RowKit
set_option linter.unusedVariables false
set_option linter.unusedSimpArgs false
set_option maxHeartbeats 4000000
set_option maxRecDepth 100000

theorem wf_range {n:Int} (h:wfI n):-9223372036854775808≤n∧n≤9223372036854775807:=by
  simp [wfI,Lit.wf,IntKind.min,IntKind.max,IntKind.signed,IntKind.bits] at h
  omega



end Go.Proofs.YtdfemnffpaopfaaGreatDoor
