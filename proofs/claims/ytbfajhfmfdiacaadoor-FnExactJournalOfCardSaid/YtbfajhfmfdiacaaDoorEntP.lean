/- An entry's text: its parts, its length. No program in sight. -/
import Derived.Test.YtbfajhfmfdiacaaDoorFmtB
namespace Go.Proofs.YtbfajhfmfdiacaaDoor
open Go.RowKit
set_option linter.unusedVariables false
set_option linter.unusedSimpArgs false
set_option maxHeartbeats 1000000
set_option maxRecDepth 100000
theorem facL_len {f : Factor} (h : vldFactor f = true) : (facL f).length ≤ 116 := by
  obtain ⟨p1, p2, p3, p4, p5, p6, p7⟩ := vld_parts h
  have h1 := kindL_len f.kind
  have h2 := itoa_len p1 (by omega) (by omega)
  have h3 := itoa_len p2 (by omega) (by omega)
  have h4 := pose_len p3
  have h5 : f.to.data.toList.length ≤ 8 := by rw [Array.length_toList]; rcases p7 with h | h <;> exact nm_size8 h
  have h6 : (frmL f.kind f.frm).length ≤ 9 := by
    unfold frmL
    split
    · decide
    · rename_i hk
      have := nm_size8 (p6 hk)
      have e : f.frm.data.toList.length ≤ 8 := by rw [Array.length_toList]; exact this
      simp only [List.length_append, List.length_cons, List.length_nil]; omega
  simp only [facL, List.length_append, List.length_cons]
  omega
theorem fmtFac_size (f : Factor) : (fmtFac f).size ≤ 116 := by
  unfold fmtFac
  split
  · rename_i h; rw [bsz]; exact facL_len h
  · decide
theorem fmtFac_data {f : Factor} (h : vldFactor f = true) : (fmtFac f).data.toList = facL f := by simp [fmtFac, h]
theorem entL_len {e : Entry} (h : vldEntry e = true) : (entL e).length ≤ 120 := by
  unfold vldEntry at h
  unfold entL
  split at h
  · rename_i hr
    simp only [Bool.and_eq_true] at h
    have := itoa_len h.1 (by omega) (by omega)
    rw [if_pos hr]
    simp only [List.length_append, List.length_cons, List.length_nil]; omega
  · rename_i hr
    simp only [Bool.and_eq_true] at h
    have := facL_len h.2
    rw [if_neg hr]
    simp only [List.length_append, List.length_cons, List.length_nil]; omega
theorem entSum_bound (e : Entry) (p : Int) : 0 ≤ entSum e p ∧ entSum e p ≤ 65520 := chk_bound _
theorem entT_size {e : Entry} (h : vldEntry e = true) (p : Int) : (entT e p).size ≤ 144 := by
  have h1 := entL_len h
  have h2 := entSum_bound e p
  have h3 := Lib.itoa_length_le (entSum e p) (by omega) (by omega)
  unfold entT
  rw [bsz]
  simp only [List.length_append, List.length_cons, List.length_nil]; omega
theorem entT_pos (e : Entry) (p : Int) : (entT e p).toList.isEmpty = false := by
  unfold entT
  rw [ByteArray.toList_mk]
  cases entL e <;> rfl
/-- the text of an entry, as both FormatEntry put it together -/
theorem ent_fin {e : Entry} {p n : Int} {s a0 a1 b0 b1 b2 : ByteArray} (hs : s.data.toList = entL e) (h0 : itoaB p ++ ⟨#[32]⟩ = a0) (h1 : a0 ++ s = a1) (hn : chk a1 = n) (h2 : s ++ ⟨#[32, 35]⟩ = b0) (h3 : b0 ++ itoaB n = b1) (h4 : b1 ++ ⟨#[10]⟩ = b2) :
    b2 = entT e p ∧ n = entSum e p := by
  have hN : n = entSum e p := by
    rw [← hn, entSum]
    congr 1
    rw [← h1, ← h0]
    apply bext
    simp [itoaB, ByteArray.data_append, hs]
  refine ⟨?_, hN⟩
  rw [← h4, ← h3, ← h2, hN]
  apply bext
  simp [itoaB, ByteArray.data_append, hs, entT]
end Go.Proofs.YtbfajhfmfdiacaaDoor
