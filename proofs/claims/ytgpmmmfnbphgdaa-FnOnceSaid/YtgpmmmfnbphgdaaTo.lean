/- The laws' own copies: what they make reads as what they were handed, in new memory. -/
import Derived.Test.YtgpmmmfnbphgdaaOwn
import Derived.Test.YtgpmmmfnbphgdaaProg
namespace Go.Proofs.Ytgpmmmfnbphgdaa
open Go.RowKit
set_option linter.unusedVariables false
set_option linter.unusedSimpArgs false
set_option maxHeartbeats 400000

-- infos
theorem info_Factor : (Try.prog.info? 45).map (fun i => (i.zero, i.size, i.bytes)) = some (some (.agg #[.int .i64 0, .int .i64 0, .string ByteArray.empty, .string ByteArray.empty, .int .i64 0, .int .i64 0, .int .i64 0, .int .i64 0]), 8, 80) := by kernel_rfl
theorem size_Factor : (Try.prog.info? 45).map (·.size) = some 8 := by kernel_rfl
def zeroFactor : List Value := [.int .i64 0, .int .i64 0, .string ByteArray.empty, .string ByteArray.empty, .int .i64 0, .int .i64 0, .int .i64 0, .int .i64 0]
theorem info_String : (Try.prog.info? 9).map (fun i => (i.zero, i.size, i.bytes)) = some (some (.string ByteArray.empty), 1, 16) := by kernel_rfl
theorem size_String : (Try.prog.info? 9).map (·.size) = some 1 := by kernel_rfl



end Go.Proofs.Ytgpmmmfnbphgdaa
