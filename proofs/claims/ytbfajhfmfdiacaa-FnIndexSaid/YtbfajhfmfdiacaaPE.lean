/- The laws' helpers on place entries. -/
import Derived.Test.YtbfajhfmfdiacaaOwn
import Derived.Test.YtbfajhfmfdiacaaProg
import Derived.Test.YtbfajhfmfdiacaaTo
import Derived.BigQuiet
import Derived.Deep.QuietTactic
import Derived.StillTailTactics
import Derived.Deep.RegionHeld3
namespace Go.Proofs.Ytbfajhfmfdiacaa
open Go.RowKit
set_option linter.unusedVariables false
set_option linter.unusedSimpArgs false
set_option maxHeartbeats 400000
theorem info_PlaceEntry : (Try.prog.info? 73).map (fun i => (i.zero, i.size, i.bytes)) = some (some (.agg #[.int .i64 0, .int .i64 0, .int .i64 0]), 3, 24) := by kernel_rfl
theorem size_PlaceEntry : (Try.prog.info? 73).map (·.size) = some 3 := by kernel_rfl
def zeroPlaceEntry : List Value := [.int .i64 0, .int .i64 0, .int .i64 0]


end Go.Proofs.Ytbfajhfmfdiacaa
