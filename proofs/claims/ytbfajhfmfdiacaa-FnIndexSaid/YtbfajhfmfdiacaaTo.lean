/- The laws' own copies: what they make reads as what they were handed, in new memory. -/
import Derived.Test.YtbfajhfmfdiacaaOwn
import Derived.Test.YtbfajhfmfdiacaaProg
namespace Go.Proofs.Ytbfajhfmfdiacaa
open Go.RowKit
set_option linter.unusedVariables false
set_option linter.unusedSimpArgs false
set_option maxHeartbeats 400000

-- infos
theorem info_Factor : (Try.prog.info? 60).map (fun i => (i.zero, i.size, i.bytes)) = some (some (.agg #[.int .i64 0, .int .i64 0, .string ByteArray.empty, .string ByteArray.empty, .int .i64 0, .int .i64 0, .int .i64 0, .int .i64 0]), 8, 80) := by kernel_rfl
theorem size_Factor : (Try.prog.info? 60).map (·.size) = some 8 := by kernel_rfl
def zeroFactor : List Value := [.int .i64 0, .int .i64 0, .string ByteArray.empty, .string ByteArray.empty, .int .i64 0, .int .i64 0, .int .i64 0, .int .i64 0]
theorem info_Place : (Try.prog.info? 71).map (fun i => (i.zero, i.size, i.bytes)) = some (some (.agg #[.string ByteArray.empty, .int .i64 0]), 2, 24) := by kernel_rfl
theorem size_Place : (Try.prog.info? 71).map (·.size) = some 2 := by kernel_rfl
def zeroPlace : List Value := [.string ByteArray.empty, .int .i64 0]
theorem info_String : (Try.prog.info? 9).map (fun i => (i.zero, i.size, i.bytes)) = some (some (.string ByteArray.empty), 1, 16) := by kernel_rfl
theorem size_String : (Try.prog.info? 9).map (·.size) = some 1 := by kernel_rfl



end Go.Proofs.Ytbfajhfmfdiacaa
