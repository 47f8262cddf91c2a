/- Texts of this proof, one behind the other: Entry, Open. -/
import Derived.Test.YtebcdjpddoaajaaDoorProg
import Derived.Test.YtebcdjpddoaajaaDoorGr2
import Derived.Test.YtebcdjpddoaajaaDoorGr12
import Derived.Test.YtebcdjpddoaajaaDoorGr13
/- The walk of the law on IsValidEntry. -/
namespace Go.Proofs.YtebcdjpddoaajaaDoor
open Go.RowKit
set_option linter.unusedVariables false
set_option linter.unusedSimpArgs false
set_option maxHeartbeats 400000
set_option maxRecDepth 100000

theorem szEntry_c (rm : Bool) (eid id kind : Int) (fr to : ByteArray) (t x y wt : Int) (left : Int) (w : World) (h1 : 0 ≤ left) (h2 : left ≤ 1048576) (hf : fr.size ≤ maxLen) (ht : to.size ≤ maxLen) :
    Calls Tryd.prog 38 #[vEntry rm eid id kind fr to t x y wt, .int .i64 left] w fun e w' => SzPost left (fr.size + to.size) e ∧ Below w.heap.size w w' := by
  go_enter Tryd.func38, Tryd.ntmps38
  go_wp2_with fail
  refine Calls.mono (szFactor_c _ _ _ _ _ _ _ _ _ _ h1 h2 hf ht) ?_
  rintro e w1 ⟨⟨r, rfl, hp⟩, hb1⟩
  rcases hp with rfl | ⟨hp0, hp1⟩
  · go_wp2_with fail
    go_ret
    exact ⟨⟨_, rfl, .inl rfl⟩, bTrans (bAlloc (Below.refl _ _) _) hb1⟩
  · have hn : ¬ r < 0 := by omega
    go_wp2_with fail
    go_ret
    exact ⟨⟨_, rfl, .inr ⟨hp0, hp1⟩⟩, bTrans (bAlloc (Below.refl _ _) _) hb1⟩
theorem toEntry_c (rm : Bool) (eid id kind : Int) (fr to : ByteArray) (t x y wt : Int) (w : World) :
    Calls Tryd.prog 40 #[vEntry rm eid id kind fr to t x y wt] w fun e w' => e = .returned (vEntry rm eid id kind fr to t x y wt) ∧ Below w.heap.size w w' := by
  go_enter Tryd.func40, Tryd.ntmps40
  go_wp2_with (go_at_call 80; refine (toFactor_x _ _ _ _ _ _ _ _ _).mono ?_; rintro e w1 ⟨rfl, rfl⟩)
  exact bodyPost_ret (v := vEntry rm eid id kind fr to t x y wt) (by simp [results, Tryd.results40, go_sem]) rfl ⟨rfl, by repeat (first | exact Below.refl _ _ | refine bAlloc ?_ _)⟩
end Go.Proofs.YtebcdjpddoaajaaDoor

/- The arguments of this seat's laws, opened. -/
namespace Go.Proofs.YtebcdjpddoaajaaDoor
open Go.ChangeShapes Go.WideShapes Go.ChangeAt Go.RowKit Go.Deep
set_option linter.unusedVariables false
set_option linter.unusedSimpArgs false
set_option maxHeartbeats 400000
theorem cells_int : Tryd.prog.cellsOf 3 = 1 := by kernel_rfl
theorem cells_string : Tryd.prog.cellsOf 9 = 1 := by kernel_rfl
theorem cells_bool : Tryd.prog.cellsOf 4 = 1 := by kernel_rfl
theorem laidB : laidOutB Tryd.prog = true := by kernel_rfl

theorem cells_Pose : Tryd.prog.cellsOf 69 = 3 := by kernel_rfl
theorem opens_Pose (w : World) : Opens Tryd.prog w 69 gPose := fun H enc base fuel spare held cs x h => by
  obtain ⟨hl, hf⟩ := opens_field Tryd.underlying69 h
  rw [cells_Pose] at hl
  obtain ⟨a, b, c, rfl⟩ := len3 hl
  obtain ⟨n0, e0, w0⟩ := hf 0 _ gInt rfl (opens_int Tryd.underlying3)
  obtain ⟨n1, e1, w1⟩ := hf 1 _ gInt rfl (opens_int Tryd.underlying3)
  obtain ⟨n2, e2, w2⟩ := hf 2 _ gInt rfl (opens_int Tryd.underlying3)
  simp [cells_int] at e0 e1 e2
  subst e0 e1 e2
  exact ⟨⟨n0, n1, n2⟩, rfl, w0, w1, w2⟩
theorem cells_Factor : Tryd.prog.cellsOf 71 = 8 := by kernel_rfl
theorem opens_Factor (w : World) : Opens Tryd.prog w 71 gFactor := fun H enc base fuel spare held cs x h => by
  obtain ⟨hl, hf⟩ := opens_field Tryd.underlying71 h
  rw [cells_Factor] at hl
  obtain ⟨a, b, c, d, e, f, g, i, rfl⟩ := len8 hl
  obtain ⟨n0, e0, w0⟩ := hf 0 _ gInt rfl (opens_int Tryd.underlying3)
  obtain ⟨n1, e1, w1⟩ := hf 1 _ gInt rfl (opens_int Tryd.underlying3)
  obtain ⟨n2, e2, w2⟩ := hf 2 _ gStr rfl (opens_str Tryd.underlying9)
  obtain ⟨n3, e3, w3⟩ := hf 3 _ gStr rfl (opens_str Tryd.underlying9)
  obtain ⟨p, e4, w4, w5, w6⟩ := hf 4 _ gPose rfl (opens_Pose w)
  obtain ⟨n7, e7, w7⟩ := hf 5 _ gInt rfl (opens_int Tryd.underlying3)
  simp [cells_int, cells_string, cells_Pose] at e0 e1 e2 e3 e4 e7
  obtain ⟨rfl, rfl, rfl⟩ := e4
  subst e0 e1 e2 e3 e7
  exact ⟨⟨n0, n1, n2, n3, p, n7⟩, rfl, w2, w3, w0, w1, w4, w5, w6, w7⟩
/-- a slice of factors that came in -/
theorem rowF_of {w : World} {cs : List Value} (h : gSlice w 8 gFactor cs) : ∃ A n c l, cs = [.slice A n c] ∧ n ≤ maxLen ∧ RowF w A n l ∧ ∀ f ∈ l, f.ok := by
  obtain ⟨A, n, c, css, rfl, h1, h2, h3, h4⟩ := h
  obtain ⟨l, rfl, hl⟩ := list_of (c := Factor.cells) (ok := Factor.ok) css (fun es hes => (h4 es hes).2)
  exact ⟨A, n, c, l, rfl, by omega, h3, hl⟩
theorem cells_Entry : Tryd.prog.cellsOf 73 = 10 := by kernel_rfl
def gEntry (cs : List Value) : Prop := ∃ e : Entry, cs = .bool e.remove :: .int .i64 e.id :: e.factor.cells ∧ wfI e.id ∧ e.factor.ok
theorem opens_Entry (w : World) : Opens Tryd.prog w 73 gEntry := fun H enc base fuel spare held cs x h => by
  obtain ⟨hl, hf⟩ := opens_field Tryd.underlying73 h
  rw [cells_Entry] at hl
  obtain ⟨a, b, c, d, e, f, g, i, j, k, rfl⟩ := len10 hl
  obtain ⟨n0, e0⟩ := hf 0 _ gBool rfl (opens_bool Tryd.underlying4)
  obtain ⟨n1, e1, w1⟩ := hf 1 _ gInt rfl (opens_int Tryd.underlying3)
  obtain ⟨F, e2, w2⟩ := hf 2 _ gFactor rfl (opens_Factor w)
  simp [cells_int, cells_bool, cells_Factor] at e0 e1 e2
  subst e0 e1
  exact ⟨⟨n0, n1, F⟩, by rw [← e2], w1, w2⟩
end Go.Proofs.YtebcdjpddoaajaaDoor
