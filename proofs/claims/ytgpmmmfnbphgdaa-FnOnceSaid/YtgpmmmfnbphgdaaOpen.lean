/- The arguments of this seat's laws, opened. -/
import Derived.Test.YtgpmmmfnbphgdaaLaw
import Derived.Test.YtgpmmmfnbphgdaaProg
namespace Go.Proofs.Ytgpmmmfnbphgdaa
open Go.ChangeShapes Go.WideShapes Go.ChangeAt Go.RowKit Go.Deep
set_option linter.unusedVariables false
set_option linter.unusedSimpArgs false
set_option maxHeartbeats 400000
theorem cells_int : Try.prog.cellsOf 3 = 1 := by kernel_rfl
theorem cells_string : Try.prog.cellsOf 9 = 1 := by kernel_rfl
theorem cells_bool : Try.prog.cellsOf 4 = 1 := by kernel_rfl
theorem laidB : laidOutB Try.prog = true := by kernel_rfl

end Go.Proofs.Ytgpmmmfnbphgdaa
