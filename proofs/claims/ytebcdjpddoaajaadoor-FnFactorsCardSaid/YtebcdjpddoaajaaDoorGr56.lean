/- Texts of this proof, one behind the other: OpenY. -/
import Derived.Test.YtebcdjpddoaajaaDoorGr14
import Derived.Test.YtebcdjpddoaajaaDoorGr47
/- A slice of bytes among the arguments, opened. -/
namespace Go.Proofs.YtebcdjpddoaajaaDoor
open Go.ChangeShapes Go.WideShapes Go.ChangeAt Go.RowKit Go.Deep
def gU8 (cs : List Value) : Prop := ∃ n : Int, cs = [.int .u8 n] ∧ (Lit.int .u8 n).wf = true
theorem opens_u8 (w : World) : Opens Tryd.prog w 5 gU8 := fun H enc base fuel spare held cs x h => by
  obtain ⟨n, rfl, _, hw⟩ := DataW.trod_int Tryd.underlying5 h
  exact ⟨n, rfl, hw⟩
theorem cells_u8 : Tryd.prog.cellsOf 5 = 1 := by kernel_rfl
theorem opens_bytes (w : World) : Opens Tryd.prog w 22 (gSlice w 1 gU8) := opens_slice Tryd.underlying22 cells_u8 (opens_u8 w) (by omega)
theorem bytes_of {w : World} {cs : List Value} (h : gSlice w 1 gU8 cs) : ∃ A n c, cs = [.slice A n c] ∧ n ≤ maxLen ∧ Bytes w A n := by
  obtain ⟨A, n, c, css, rfl, h1, h2, h3, h4⟩ := h
  refine ⟨A, n, c, rfl, by omega, fun i hi => ?_⟩
  have hl : css.length = n := h3.1
  have hi' : i < css.length := by omega
  obtain ⟨_, x, hx, hw⟩ := h4 css[i] (List.getElem_mem hi')
  obtain ⟨g, off, hA, hc⟩ := h3.2 i css[i] (List.getElem?_eq_getElem hi')
  have hr : 0 ≤ x ∧ x ≤ 255 := by
    simp [Lit.wf, IntKind.min, IntKind.max, IntKind.signed, IntKind.bits] at hw
    omega
  exact ⟨g, off, x, hA, hr.1, hr.2, by have := hc 0 (.int .u8 x) (by rw [hx]; rfl); simpa using this⟩
end Go.Proofs.YtebcdjpddoaajaaDoor
