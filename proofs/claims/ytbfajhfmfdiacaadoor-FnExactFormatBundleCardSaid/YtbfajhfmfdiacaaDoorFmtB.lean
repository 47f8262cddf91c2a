/- Names and poses: their lengths. -/
import Derived.Test.YtbfajhfmfdiacaaDoorFmtA
namespace Go.Proofs.YtbfajhfmfdiacaaDoor
open Go.RowKit
set_option linter.unusedVariables false
set_option linter.unusedSimpArgs false
set_option maxHeartbeats 1000000
set_option maxRecDepth 100000
theorem nm_size8 {s : ByteArray} {b : Int} (h : nmWith s b = true) : s.size ≤ 8 := by
  unfold nmWith isNm at h
  simp only [Bool.and_eq_true, decide_eq_true_eq] at h
  omega
theorem nm_nonempty {s : ByteArray} {b : Int} (h : nmWith s b = true) : s.toList.isEmpty = false := by
  unfold nmWith isNm at h
  simp only [Bool.and_eq_true, decide_eq_true_eq] at h
  rw [ByteArray.toList_eq]
  have h1 : 1 ≤ s.data.size := h.1.1.1
  cases hd : s.data.toList with
  | nil => rw [← Array.length_toList, hd] at h1; simp at h1
  | cons a l => rfl
theorem fmtPose_data {t x y : Int} (h : vldPose t x y = true) : (fmtPose t x y).data.toList = poseL t x y := by simp [fmtPose, h]
theorem fmtPose_size {t x y : Int} (h : vldPose t x y = true) : (fmtPose t x y).size ≤ 45 := by
  simp only [fmtPose, h, if_true]; rw [bsz]; exact pose_len h
end Go.Proofs.YtbfajhfmfdiacaaDoor
