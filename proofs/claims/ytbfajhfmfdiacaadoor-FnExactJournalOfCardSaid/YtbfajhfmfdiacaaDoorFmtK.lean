/- The program's kindWord. -/
import Derived.Test.YtbfajhfmfdiacaaDoorFmtB
import Derived.Test.YtbfajhfmfdiacaaDoorFmtPI
namespace Go.Proofs.YtbfajhfmfdiacaaDoor
open Go.RowKit
set_option linter.unusedVariables false
set_option linter.unusedSimpArgs false
set_option maxHeartbeats 1000000
set_option maxRecDepth 100000
theorem kindWord_1 (w : World) : Calls Tryd.prog 99 #[.int .i64 1] w fun e w' => e = .returned (.string ⟨#[112, 114, 105, 111, 114]⟩) ∧ Below w.heap.size w w' := by
  go_enter Tryd.func99, Tryd.ntmps99
  go_wp2
  all_goals (go_ret; exact ⟨rfl, Below.refl _ _⟩)
theorem kindWord_2 (w : World) : Calls Tryd.prog 99 #[.int .i64 2] w fun e w' => e = .returned (.string ⟨#[111, 100, 111, 109, 101, 116, 114, 121]⟩) ∧ Below w.heap.size w w' := by
  go_enter Tryd.func99, Tryd.ntmps99
  go_wp2
  all_goals (go_ret; exact ⟨rfl, Below.refl _ _⟩)
theorem kindWord_3 (w : World) : Calls Tryd.prog 99 #[.int .i64 3] w fun e w' => e = .returned (.string ⟨#[108, 97, 110, 100, 109, 97, 114, 107]⟩) ∧ Below w.heap.size w w' := by
  go_enter Tryd.func99, Tryd.ntmps99
  go_wp2
  all_goals (go_ret; exact ⟨rfl, Below.refl _ _⟩)
theorem kindWord_4 (w : World) : Calls Tryd.prog 99 #[.int .i64 4] w fun e w' => e = .returned (.string ⟨#[108, 111, 111, 112]⟩) ∧ Below w.heap.size w w' := by
  go_enter Tryd.func99, Tryd.ntmps99
  go_wp2
  all_goals (go_ret; exact ⟨rfl, Below.refl _ _⟩)
end Go.Proofs.YtbfajhfmfdiacaaDoor
