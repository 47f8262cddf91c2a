/- The reference's FormatFactor. -/
import Derived.Test.YtbfajhfmfdiacaaDoorFmtS1
import Derived.Test.YtbfajhfmfdiacaaDoorFmtS2
import Derived.Test.YtbfajhfmfdiacaaDoorFmtS3
import Derived.Test.YtbfajhfmfdiacaaDoorFmtS4
namespace Go.Proofs.YtbfajhfmfdiacaaDoor
open Go.RowKit
set_option linter.unusedVariables false
set_option linter.unusedSimpArgs false
set_option maxHeartbeats 1000000
set_option maxRecDepth 100000
theorem spec_FormatFactor_c (id kind : Int) (fr to : ByteArray) (t x y wt : Int) (w : World) (hf : fr.size ≤ 1048576) (ht : to.size ≤ 1048576) :
    Calls Tryd.prog 63 #[vFactor id kind fr to t x y wt] w fun e w' => e = .returned (.string (fmtFac ⟨id, kind, fr, to, ⟨t, x, y⟩, wt⟩)) ∧ Below w.heap.size w w' := by
  cases hv : vldFactor ⟨id, kind, fr, to, ⟨t, x, y⟩, wt⟩
  · have hfin : Hid (fmtFac ⟨id, kind, fr, to, ⟨t, x, y⟩, wt⟩ = ⟨#[]⟩) := by simp [Hid, fmtFac, hv]
    have HV := Lib.hid hv
    clear hv
    go_enter Tryd.func63, Tryd.ntmps63
    go_wp2_with (go_at_call 95; refine (spec_IsValidFactor_c _ _ _ _ _ _ _ _ _ hf ht).mono ?_; rw [HV.out]; rintro e w1 ⟨rfl, hb1⟩; obtain ⟨hc, hfz⟩ := bcell hb1)
    go_ret
    exact ⟨by rw [hfin.out]; rfl, bTrans (bAlloc (Below.refl _ _) _) hb1⟩
  · obtain ⟨_, _, _, hk, _⟩ := vld_parts hv
    dsimp only at hk
    obtain rfl | rfl | rfl | rfl := hk
    · exact spec_FormatFactor_1 id fr to t x y wt w hv
    · exact spec_FormatFactor_2 id fr to t x y wt w hv
    · exact spec_FormatFactor_3 id fr to t x y wt w hv
    · exact spec_FormatFactor_4 id fr to t x y wt w hv
end Go.Proofs.YtbfajhfmfdiacaaDoor
