/- Texts of this proof, one behind the other: Tab. -/
import Derived.Test.YtebcdjpddoaajaaDoorCards
import Derived.Test.YtebcdjpddoaajaaDoorTie
import Derived.Deep.DeepHandedRow
import Derived.Lib.LaidTab
import Derived.Lib.AppendIntMem
import Derived.Stop.LaidErr
import Derived.Stop.Joined
import Derived.LaidMore
import Derived.Test.YtebcdjpddoaajaaDoorGr3
import Derived.Test.YtebcdjpddoaajaaDoorGr4
/- The table that strconv.Itoa reads: out of the row's condition, and behind calls that only make memory; strconv.Itoa's contract of the kit's shelf, restated. -/
namespace Go.Proofs.YtebcdjpddoaajaaDoor
open Go.ChangeShapes Go.WideShapes Go.ChangeAt Go.RowKit
set_option linter.unusedVariables false
set_option linter.unusedSimpArgs false
theorem gTab : Tryd.prog.globalNamed "internal/strconv.uint64pow10" = some 3 := by kernel_rfl
theorem gTabType : (Tryd.prog.globals[3]?).map (·.type) = some 172 := by kernel_rfl
theorem cTab : Tryd.prog.cellsOf 172 = 20 := by kernel_rfl
theorem cTab1 : Tryd.prog.cellsOf 153 = 1 := by kernel_rfl
/-- the table holds the powers of ten -/
def Tab (w : World) : Prop := Lib.TabIs Tryd.prog w "internal/strconv.uint64pow10" .u64 Lib.pow10Tab
theorem Tab.below {w w' : World} (h : Tab w) (hb : Below w.heap.size w w') : Tab w' := Lib.tabBelow_of_tabIs h w' hb
theorem tabData_eq : (Rows.laid_internal_strconv_uint64pow10 : DataW Unit) = Lib.tabData .u64 Lib.pow10Tab := by kernel_rfl
/-- the list of the rows -/
def laidL : List (String × DataW Unit) := [("math/bits.deBruijn32tab", Rows.laid_math_bits_deBruijn32tab), ("math/bits.deBruijn64tab", Rows.laid_math_bits_deBruijn64tab), ("internal/strconv.uint64pow10", Rows.laid_internal_strconv_uint64pow10)]
theorem tab_of_laid {W : World} (h : laidMetH Tryd.prog laidL W) : Tab W := by
  rw [MakeChecks.laidMetH_plain _ _ _ (by kernel_rfl)] at h
  have h2 := h.tail.tail
  rw [tabData_eq] at h2
  exact Lib.tabIs_of_head gTab gTabType Tryd.underlying172 Tryd.underlying153 cTab1 cTab h2
/-- impl.FormatInt: the numeral -/
theorem impl_FormatInt_c (n : Int) (w : World) (h0 : -9223372036854775808 ≤ n) (h1 : n ≤ 9223372036854775807) (hT : Tab w) : Calls Tryd.prog 54 #[.int .i64 n] w fun e w' => e = .returned (.string (itoaB n)) ∧ Below w.heap.size w w' := by
  go_enter Tryd.func54, Tryd.ntmps54
  go_wp2_with (go_at_call 94; refine (YtebcdjpddoaajaaDoor.strconv_Itoa n h0 h1 _ hT).mono ?_; rintro e w1 ⟨rfl, k, os, rfl⟩)
  go_ret
  exact ⟨rfl, Lib.below_grow _ _ (Nat.le_refl _) _ _⟩
end Go.Proofs.YtebcdjpddoaajaaDoor
