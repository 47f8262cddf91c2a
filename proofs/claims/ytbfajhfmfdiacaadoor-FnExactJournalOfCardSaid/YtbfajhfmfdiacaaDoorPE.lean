/- The laws' helpers on place entries. -/
import Derived.Test.YtbfajhfmfdiacaaDoorSz
import Derived.Test.YtbfajhfmfdiacaaDoorTo
import Derived.Test.YtbfajhfmfdiacaaDoorEq
namespace Go.Proofs.YtbfajhfmfdiacaaDoor
open Go.RowKit
set_option linter.unusedVariables false
set_option linter.unusedSimpArgs false
set_option maxHeartbeats 400000


end Go.Proofs.YtbfajhfmfdiacaaDoor
