/- The laws' own marks, at further element types. -/
import Derived.Test.YtgpmmmfnbphgdaaMark
namespace Go.Proofs.Ytgpmmmfnbphgdaa
open Go.RowKit
set_option linter.unusedVariables false
set_option linter.unusedSimpArgs false
set_option maxHeartbeats 1600000
theorem sz_bool : (Try.prog.info? 4).map (·.size) = some 1 := by kernel_rfl
theorem vlen10 {l : List Value} (h : l.length = 10) : ∃ a b c d e f g i j k, l = [a, b, c, d, e, f, g, i, j, k] := by
  match l, h with
  | [a, b, c, d, e, f, g, i, j, k], _ => exact ⟨a, b, c, d, e, f, g, i, j, k, rfl⟩









end Go.Proofs.Ytgpmmmfnbphgdaa
