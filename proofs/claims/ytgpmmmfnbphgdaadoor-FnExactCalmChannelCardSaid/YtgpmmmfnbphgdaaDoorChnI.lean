/- StepChannel: the program. -/
import Derived.Test.YtgpmmmfnbphgdaaDoorChnI1
import Derived.Test.YtgpmmmfnbphgdaaDoorChnI2
import Derived.Test.YtgpmmmfnbphgdaaDoorChnI3
namespace Go.Proofs.YtgpmmmfnbphgdaaDoor
open Go.RowKit
set_option linter.unusedVariables false
set_option linter.unusedSimpArgs false
set_option maxHeartbeats 4000000
set_option maxRecDepth 100000
theorem impl_step_k (v : CV) (c : Chan) (mv at_ : Int) (w : World) {m : Int} (hok : OKC m c) (hfw : fewC c) (hr : RdC w v c) (hat : -9223372036854775808 ≤ at_ ∧ at_ ≤ 9223372036854775807) (hT : Tab w) :
    Calls Tryd.prog 67 #[vChan v c.base c.expected, .int .i64 mv, .int .i64 at_] w fun e w' => SPost w (moveC c mv at_) e w' := by
  by_cases h7 : 1 ≤ mv ∧ mv ≤ 7
  · have h8 : mv = 1 ∨ mv = 2 ∨ mv = 3 ∨ mv = 4 ∨ mv = 5 ∨ mv = 6 ∨ mv = 7 := by omega
    rcases h8 with rfl | rfl | rfl | rfl | rfl | rfl | rfl
    · exact impl_step_1 v c at_ w hok hfw hr hat hT
    · exact impl_step_2 v c at_ w hok hfw hr hat hT
    · exact impl_step_3 v c at_ w hok hfw hr hat hT
    · exact impl_step_4 v c at_ w hok hfw hr hat hT
    · exact impl_step_5 v c at_ w hok hfw hr hat hT
    · exact impl_step_6 v c at_ w hok hfw hr hat hT
    · exact impl_step_7 v c at_ w hok hfw hr hat hT
  · exact impl_step_out v c mv at_ w hok hfw hr hat hT h7
end Go.Proofs.YtgpmmmfnbphgdaaDoor
