/- A slice of entries among the arguments, opened. -/
import Derived.Test.YtbfajhfmfdiacaaDoorFlat
import Derived.Test.YtbfajhfmfdiacaaDoorOpen
namespace Go.Proofs.YtbfajhfmfdiacaaDoor
open Go.ChangeShapes Go.WideShapes Go.ChangeAt Go.RowKit Go.Deep
theorem opens_EntryS (w : World) : Opens Tryd.prog w 78 (gSlice w 10 gEntry) := opens_slice Tryd.underlying78 cells_Entry (opens_Entry w) (by omega)
theorem rowEn_of {w : World} {cs : List Value} (h : gSlice w 10 gEntry cs) : ∃ A n c l, cs = [.slice A n c] ∧ n ≤ maxLen ∧ RowN w A n l ∧ ∀ f ∈ l, Entry.ok f := by
  obtain ⟨A, n, c, css, rfl, h1, h2, h3, h4⟩ := h
  obtain ⟨l, rfl, hl⟩ := list_of (c := Entry.cells) (ok := Entry.ok) css (fun es hes => by obtain ⟨e, h5, h6, h7⟩ := (h4 es hes).2; exact ⟨e, h5, h6, h7⟩)
  exact ⟨A, n, c, l, rfl, by omega, h3, hl⟩
end Go.Proofs.YtbfajhfmfdiacaaDoor
