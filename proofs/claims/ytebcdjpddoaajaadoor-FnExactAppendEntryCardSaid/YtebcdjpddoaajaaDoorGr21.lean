/- Texts of this proof, one behind the other: TabE. -/
import Derived.Test.YtebcdjpddoaajaaDoorGr5
import Derived.Test.YtebcdjpddoaajaaDoorGr18
import Derived.Test.YtebcdjpddoaajaaDoorGr20
/- The table and the two errors that strconv reads: out of the row's condition, and behind calls that only make memory. ParseInt of the program. -/
namespace Go.Proofs.YtebcdjpddoaajaaDoor
open Go.ChangeShapes Go.WideShapes Go.ChangeAt Go.RowKit
set_option linter.unusedVariables false
set_option linter.unusedSimpArgs false
set_option maxRecDepth 100000
theorem gErrS : Tryd.prog.globalNamed "strconv.ErrSyntax" = some 0 := by kernel_rfl
theorem gErrR : Tryd.prog.globalNamed "strconv.ErrRange" = some 1 := by kernel_rfl
theorem gErrST : (Tryd.prog.globals[0]?).map (·.type) = some 123 := by kernel_rfl
theorem gErrRT : (Tryd.prog.globals[1]?).map (·.type) = some 123 := by kernel_rfl
theorem errStar : "*" ++ "errors.errorString" = "*errors.errorString" := by decide
theorem errRow (u : TypeId) (h : Tryd.prog.typeName? 3 u = some "*errors.errorString") : u = 168 :=
  typeName_ptr_named (nm := "errors.errorString") (by rw [errStar]; kernel_rfl) (by kernel_rfl) (by decide) u (by rw [errStar]; exact h)
theorem errU : ∃ ms, Tryd.prog.underlying 123 = some (.interface ms) := by
  have h : (match Tryd.prog.underlying 123 with | some (.interface _) => true | _ => false) = true := by kernel_rfl
  revert h
  cases Tryd.prog.underlying 123 with
  | none => intro h; cases h
  | some t => cases t <;> intro h <;> first | exact ⟨_, rfl⟩ | cases h
theorem errP : Tryd.prog.underlying 168 = some (.pointer 170) := by kernel_rfl
theorem errE : Tryd.prog.underlying 170 = some (.struct #[⟨"s", 9, 0, false, "", "errors", 0⟩]) := by kernel_rfl
theorem errC : Tryd.prog.cellsOf 170 = 1 := by kernel_rfl
theorem strC : Tryd.prog.cellsOf 9 = 1 := by kernel_rfl
theorem strU : Tryd.prog.underlying 9 = some .string := by kernel_rfl
/-- the table, and some error in each of the two variables -/
def TabE (w : World) : Prop := Tab w ∧ (∃ tp p, w.cell? ⟨0, 0, none⟩ = some (.iface tp p)) ∧ ∃ tp p, w.cell? ⟨1, 0, none⟩ = some (.iface tp p)
theorem TabE.tab {w : World} (h : TabE w) : Tab w := h.1
theorem TabE.below {w w' : World} (h : TabE w) (hb : Below w.heap.size w w') : TabE w' := by
  obtain ⟨h1, ⟨tp, p, h2⟩, tq, q, h3⟩ := h
  exact ⟨h1.below hb, ⟨tp, p, bCell hb h2⟩, tq, q, bCell hb h3⟩
/-- the list of the rows -/
def laidL5 : List (String × DataW Unit) := [("math/bits.deBruijn32tab", Rows.laid_math_bits_deBruijn32tab), ("math/bits.deBruijn64tab", Rows.laid_math_bits_deBruijn64tab), ("internal/strconv.uint64pow10", Rows.laid_internal_strconv_uint64pow10), ("strconv.ErrRange", Rows.laid_strconv_ErrRange), ("strconv.ErrSyntax", Rows.laid_strconv_ErrSyntax)]
theorem tabE_of_laid {W : World} (h : laidMetH Tryd.prog laidL5 W) : TabE W := by
  rw [MakeChecks.laidMetH_plain _ _ _ (by kernel_rfl)] at h
  have h2 := h.tail.tail
  rw [tabData_eq] at h2
  have h3 := h2.tail
  have h4 := h3.tail
  obtain ⟨ms, hi⟩ := errU
  obtain ⟨a, s, hv, _⟩ := laid_sentinel h3 gErrR gErrRT hi errRow errP errE rfl rfl strU errC strC
  obtain ⟨b, t, hv2, _⟩ := laid_sentinel h4 gErrS gErrST hi errRow errP errE rfl rfl strU errC strC
  exact ⟨Lib.tabIs_of_head gTab gTabType Tryd.underlying172 Tryd.underlying153 cTab1 cTab h2, ⟨_, _, by rw [World.var?_cell gErrS hv2 0]; rfl⟩, _, _, by rw [World.var?_cell gErrR hv 0]; rfl⟩
theorem itoaB_toL (v : Int) : (itoaB v).toList = Lib.itoa v := by rw [ByteArray.toList_eq]; simp [itoaB]
theorem bytesW {w w' : World} (h : w' = w ∨ ∃ t, w' = Lib.bytesWorld w 5 t) : Below w.heap.size w w' := by
  rcases h with rfl | ⟨t, rfl⟩
  · exact Below.refl _ _
  · exact Lib.bytesWorld_below _ _ _
theorem impl_ParseInt_c (s : ByteArray) (w : World) (hs : s.size ≤ 4194304) (hT : TabE w) : Calls Tryd.prog 50 #[.string s] w fun e w' => e = .returned (vPair (psI s)) ∧ Below w.heap.size w w' := by
  have HT := Lib.hid hT
  clear hT
  cases ha : Lib.atoiAll s.data.toList
  case ok v =>
    obtain ⟨v0, v1⟩ := Lib.atoiAll_bounds ha
    have HA := Lib.hid ha
    clear ha
    cases he : (Lib.itoa v == s.toList) with
    | true =>
      have HS := Lib.hid (show itoaB v = s from toL_inj ((itoaB_toL v).trans (eq_of_beq he)))
      go_enter Tryd.func50, Tryd.ntmps50
      go_wp2_with (first | (go_at_call 93; refine (YtebcdjpddoaajaaDoor.strconv_Atoi_ok s (by omega) v HA.out _).mono ?_; rintro e w1 ⟨rfl, hw1⟩; have hb1 := bytesW hw1; clear hw1) | (go_at_call 94; refine (YtebcdjpddoaajaaDoor.strconv_Itoa v v0 v1 _ (HT.out.tab.below hb1)).mono ?_; rintro e w2 ⟨rfl, k, os, rfl⟩))
      refine bodyPost_ret (v := .tuple #[.int .i64 v, .bool true]) (by simp [*, results, Tryd.results50, go_sem]) rfl ⟨?_, hb1.trans (Lib.below_grow _ _ hb1.size _ _)⟩
      rw [psI_some v0 v1 HS.out]; rfl
    | false =>
      have HS := Lib.hid (show ¬ itoaB v = s from fun e => by rw [← e, itoaB_toL] at he; simp at he)
      go_enter Tryd.func50, Tryd.ntmps50
      go_wp2_with (first | (go_at_call 93; refine (YtebcdjpddoaajaaDoor.strconv_Atoi_ok s (by omega) v HA.out _).mono ?_; rintro e w1 ⟨rfl, hw1⟩; have hb1 := bytesW hw1; clear hw1) | (go_at_call 94; refine (YtebcdjpddoaajaaDoor.strconv_Itoa v v0 v1 _ (HT.out.tab.below hb1)).mono ?_; rintro e w2 ⟨rfl, k, os, rfl⟩))
      refine bodyPost_ret (v := .tuple #[.int .i64 0, .bool false]) (by simp [*, results, Tryd.results50, go_sem]) rfl ⟨?_, hb1.trans (Lib.below_grow _ _ hb1.size _ _)⟩
      rw [psI_none]; rfl
      intro n h1 h2 h3
      have h4 := atoi_itoa h1 h2
      have h5 : s.data.toList = Lib.itoa n := by rw [← h3]; simp [itoaB]
      rw [← h5, HA.out] at h4
      injection h4 with h4
      rw [← h4] at h3
      exact HS.out h3
  case range =>
    have HA := Lib.hid ha
    clear ha
    obtain ⟨tp, p, hcell⟩ := HT.out.2.2
    go_enter Tryd.func50, Tryd.ntmps50
    go_wp2_with (go_at_call 93; refine (YtebcdjpddoaajaaDoor.strconv_Atoi_range s (by omega) HA.out _ _ hcell (.inr ⟨tp, p, rfl⟩)).mono ?_; rintro e w1 ⟨N, rfl, hN, hC, hb1⟩; clear hcell)
    refine bodyPost_ret (v := .tuple #[.int .i64 0, .bool false]) (by simp [*, results, Tryd.results50, go_sem]) rfl ⟨?_, hb1⟩
    rw [psI_none]; rfl
    intro n h1 h2 h3
    have h4 := atoi_itoa h1 h2
    have h5 : s.data.toList = Lib.itoa n := by rw [← h3]; simp [itoaB]
    rw [← h5, HA.out] at h4
    cases h4
  focus
    have HA := Lib.hid ha
    clear ha
    obtain ⟨tp, p, hcell⟩ := HT.out.2.1
    go_enter Tryd.func50, Tryd.ntmps50
    go_wp2_with (go_at_call 93; refine (YtebcdjpddoaajaaDoor.strconv_Atoi_syntax s (by omega) HA.out _ _ hcell (.inr ⟨tp, p, rfl⟩)).mono ?_; rintro e w1 ⟨N, rfl, hN, hC, hb1⟩; clear hcell)
    refine bodyPost_ret (v := .tuple #[.int .i64 0, .bool false]) (by simp [*, results, Tryd.results50, go_sem]) rfl ⟨?_, hb1⟩
    rw [psI_none]; rfl
    intro n h1 h2 h3
    have h4 := atoi_itoa h1 h2
    have h5 : s.data.toList = Lib.itoa n := by rw [← h3]; simp [itoaB]
    rw [← h5, HA.out] at h4
    cases h4
end Go.Proofs.YtebcdjpddoaajaaDoor
