/- The arguments of this seat's laws, opened. -/
import Derived.Test.YtadmeijogbljhaaLaw
import Derived.Test.YtadmeijogbljhaaProg
namespace Go.Proofs.Ytadmeijogbljhaa
open Go.ChangeShapes Go.WideShapes Go.ChangeAt Go.RowKit Go.Deep
set_option linter.unusedVariables false
set_option linter.unusedSimpArgs false
set_option maxHeartbeats 400000
theorem cells_int : Try.prog.cellsOf 3 = 1 := by kernel_rfl
theorem cells_string : Try.prog.cellsOf 9 = 1 := by kernel_rfl
theorem cells_bool : Try.prog.cellsOf 4 = 1 := by kernel_rfl
theorem laidB : laidOutB Try.prog = true := by kernel_rfl

theorem cells_Pose : Try.prog.cellsOf 144 = 3 := by kernel_rfl
theorem opens_Pose (w : World) : Opens Try.prog w 144 gPose := fun H enc base fuel spare held cs x h => by
  obtain ⟨hl, hf⟩ := opens_field Try.underlying144 h
  rw [cells_Pose] at hl
  obtain ⟨a, b, c, rfl⟩ := len3 hl
  obtain ⟨n0, e0, w0⟩ := hf 0 _ gInt rfl (opens_int Try.underlying3)
  obtain ⟨n1, e1, w1⟩ := hf 1 _ gInt rfl (opens_int Try.underlying3)
  obtain ⟨n2, e2, w2⟩ := hf 2 _ gInt rfl (opens_int Try.underlying3)
  simp [cells_int] at e0 e1 e2
  subst e0 e1 e2
  exact ⟨⟨n0, n1, n2⟩, rfl, w0, w1, w2⟩
theorem cells_Factor : Try.prog.cellsOf 146 = 8 := by kernel_rfl
theorem opens_Factor (w : World) : Opens Try.prog w 146 gFactor := fun H enc base fuel spare held cs x h => by
  obtain ⟨hl, hf⟩ := opens_field Try.underlying146 h
  rw [cells_Factor] at hl
  obtain ⟨a, b, c, d, e, f, g, i, rfl⟩ := len8 hl
  obtain ⟨n0, e0, w0⟩ := hf 0 _ gInt rfl (opens_int Try.underlying3)
  obtain ⟨n1, e1, w1⟩ := hf 1 _ gInt rfl (opens_int Try.underlying3)
  obtain ⟨n2, e2, w2⟩ := hf 2 _ gStr rfl (opens_str Try.underlying9)
  obtain ⟨n3, e3, w3⟩ := hf 3 _ gStr rfl (opens_str Try.underlying9)
  obtain ⟨p, e4, w4, w5, w6⟩ := hf 4 _ gPose rfl (opens_Pose w)
  obtain ⟨n7, e7, w7⟩ := hf 5 _ gInt rfl (opens_int Try.underlying3)
  simp [cells_int, cells_string, cells_Pose] at e0 e1 e2 e3 e4 e7
  obtain ⟨rfl, rfl, rfl⟩ := e4
  subst e0 e1 e2 e3 e7
  exact ⟨⟨n0, n1, n2, n3, p, n7⟩, rfl, w2, w3, w0, w1, w4, w5, w6, w7⟩
theorem opens_FactorS (w : World) : Opens Try.prog w 62 (gSlice w 8 gFactor) := opens_slice Try.underlying62 cells_Factor (opens_Factor w) (by omega)
/-- a slice of factors that came in -/
theorem rowF_of {w : World} {cs : List Value} (h : gSlice w 8 gFactor cs) : ∃ A n c l, cs = [.slice A n c] ∧ n ≤ maxLen ∧ RowF w A n l ∧ ∀ f ∈ l, f.ok := by
  obtain ⟨A, n, c, css, rfl, h1, h2, h3, h4⟩ := h
  obtain ⟨l, rfl, hl⟩ := list_of (c := Factor.cells) (ok := Factor.ok) css (fun es hes => (h4 es hes).2)
  exact ⟨A, n, c, l, rfl, by omega, h3, hl⟩
theorem cells_Place : Try.prog.cellsOf 139 = 2 := by kernel_rfl
theorem opens_Place (w : World) : Opens Try.prog w 139 gPlace := fun H enc base fuel spare held cs x h => by
  obtain ⟨hl, hf⟩ := opens_field Try.underlying139 h
  rw [cells_Place] at hl
  obtain ⟨a, b, rfl⟩ := len2 hl
  obtain ⟨n0, e0, w0⟩ := hf 0 _ gStr rfl (opens_str Try.underlying9)
  obtain ⟨n1, e1, w1⟩ := hf 1 _ gInt rfl (opens_int Try.underlying3)
  simp [cells_int, cells_string] at e0 e1
  subst e0 e1
  exact ⟨⟨n0, n1⟩, rfl, w0, w1⟩
theorem opens_PlaceS (w : World) : Opens Try.prog w 55 (gSlice w 2 gPlace) := opens_slice Try.underlying55 cells_Place (opens_Place w) (by omega)
theorem rowP_of {w : World} {cs : List Value} (h : gSlice w 2 gPlace cs) : ∃ A n c l, cs = [.slice A n c] ∧ n ≤ maxLen ∧ RowP w A n l ∧ ∀ f ∈ l, f.ok := by
  obtain ⟨A, n, c, css, rfl, h1, h2, h3, h4⟩ := h
  obtain ⟨l, rfl, hl⟩ := list_of (c := Place.cells) (ok := Place.ok) css (fun es hes => (h4 es hes).2)
  exact ⟨A, n, c, l, rfl, by omega, h3, hl⟩
end Go.Proofs.Ytadmeijogbljhaa
