/- The reference's FormatPose. -/
import Derived.Test.YtbfajhfmfdiacaaDoorFmtP0
import Derived.Test.YtbfajhfmfdiacaaDoorFmtP1
import Derived.Test.YtbfajhfmfdiacaaDoorFmtP2
import Derived.Test.YtbfajhfmfdiacaaDoorFmtP3
namespace Go.Proofs.YtbfajhfmfdiacaaDoor
open Go.RowKit
set_option linter.unusedVariables false
set_option linter.unusedSimpArgs false
set_option maxHeartbeats 1000000
set_option maxRecDepth 100000
theorem spec_FormatPose_c (t x y : Int) (w : World) : Calls Tryd.prog 96 #[vPose t x y] w fun e w' => e = .returned (.string (fmtPose t x y)) ∧ Below w.heap.size w w' := by
  cases hv : vldPose t x y
  · have hfin : Hid (fmtPose t x y = ⟨#[]⟩) := by simp [Hid, fmtPose, hv]
    have HV := Lib.hid hv
    clear hv
    go_enter Tryd.func96, Tryd.ntmps96
    go_wp2_with (go_at_call 112; refine (spec_IsValidPose_c _ _ _ _).mono ?_; rw [HV.out]; rintro e w1 ⟨rfl, hb1⟩; obtain ⟨hc, hfz⟩ := bcell hb1)
    go_ret
    exact ⟨by rw [hfin.out]; rfl, bTrans (bAlloc (Below.refl _ _) _) hb1⟩
  · obtain ⟨t0, t1⟩ : 0 ≤ t ∧ t ≤ 3 := by
      simp [vldPose, inR] at hv; omega
    obtain rfl | rfl | rfl | rfl : t = 0 ∨ t = 1 ∨ t = 2 ∨ t = 3 := by omega
    · exact spec_FormatPose_0 x y w hv
    · exact spec_FormatPose_1 x y w hv
    · exact spec_FormatPose_2 x y w hv
    · exact spec_FormatPose_3 x y w hv
end Go.Proofs.YtbfajhfmfdiacaaDoor
