/- The walks of the laws over numbers and strings alone. -/
import Derived.Test.YtolkhkkkfpaenaaValid
import Derived.Test.YtolkhkkkfpaenaaSz
import Derived.Test.YtolkhkkkfpaenaaTo
import Derived.Test.YtolkhkkkfpaenaaLaw
namespace Go.Proofs.Ytolkhkkkfpaenaa
open Go.RowKit
set_option linter.unusedVariables false
set_option linter.unusedSimpArgs false
set_option maxHeartbeats 400000

theorem w_FnExactCutJournal (a0 : ByteArray) (w0 : a0.size ≤ maxLen) (a1 : Int) (w1 : (Lit.int .i64 a1).wf = true) (w : World) :
    Calls Try.prog 3 #[.string a0, .int .i64 a1] w fun e w' => e = rBool true ∧ Below w.heap.size w w' := by
  go_enter Try.func3, Try.ntmps3
  go_wp2
  all_goals (go_ret; exact ⟨rfl, Below.refl _ _⟩)
theorem w_FnExactRobotOf (a0 : Int) (w0 : (Lit.int .i64 a0).wf = true) (w : World) :
    Calls Try.prog 4 #[.int .i64 a0] w fun e w' => e = rBool true ∧ Below w.heap.size w w' := by
  obtain ⟨b1, b2⟩ := bounds_i64 w0
  by_cases h1 : a0 < 0
  · clear b1 b2
    go_enter Try.func4, Try.ntmps4
    go_wp2
    go_ret
    exact ⟨rfl, Below.refl _ _⟩
  · by_cases h2 : a0 ≤ 2999
    · have h3 : a0 / 1000 < 3 := by omega
      have h4 : 0 ≤ a0 / 1000 := by omega
      clear b1 b2
      go_enter Try.func4, Try.ntmps4
      go_wp2
      go_ret
      exact ⟨rfl, Below.refl _ _⟩
    · have h3 : 3 ≤ a0 / 1000 := by omega
      have h4 : wrap64 (a0.tdiv 1000) = a0 / 1000 := by
        rw [Int.tdiv_eq_ediv_of_nonneg (by omega)]
        exact IntWalk.wrap64_in _ ⟨by omega, by omega⟩
      have h5 : decide (a0 ≤ 2999) = false := by simp; omega
      clear b1 b2
      go_enter Try.func4, Try.ntmps4
      go_wp2
      go_ret
      exact ⟨rfl, Below.refl _ _⟩
theorem w_FnExactIsValidPlace (f : Place) (hok : f.ok) (w : World) :
    Calls Try.prog 8 #[.agg f.cells.toArray] w fun e w' => e = rBool true ∧ Below w.heap.size w w' := by
  obtain ⟨nm, bits⟩ := f
  obtain ⟨h1, h2⟩ := hok
  show Calls Try.prog 8 #[vPlace nm bits] w _
  dsimp only at h1
  generalize hv : vldPlace ⟨nm, bits⟩ = b
  have Hv := Lib.hid hv
  clear hv
  go_enter Try.func8, Try.ntmps8
  go_wp2_with (first
    | (go_at_call 26; refine (szPlace_c _ _ _ _ (by omega) (by omega) h1).mono ?_; rintro e w1 ⟨⟨r, rfl, hp⟩, hb1⟩; have k1 := bBox hb1 w.heap.size (by simp); have hz1 := bsz1 hb1; rcases hp with rfl | ⟨hp0, hp1⟩)
    | (go_at_call 28; refine (toPlace_c _ _ _).mono ?_; rintro e w2 ⟨rfl, hb2⟩; have k2 := bBox hb2 w.heap.size (by omega); have hz2 : w.heap.size + 1 ≤ w2.heap.size := by have := hb2.size; omega)
    | (go_at_call 27; refine (spec_IsValidPlace_c _ _ _ (by have := hp1.out; omega)).mono ?_; rw [Hv.out]; rintro e w3 ⟨rfl, hb3⟩; have k3 := bBox hb3 w.heap.size (by omega); have hz3 : w.heap.size + 1 ≤ w3.heap.size := by have := hb3.size; omega)
    | (go_at_call 29; refine (impl_IsValidPlace_c _ _ _ (by have := hp1.out; omega)).mono ?_; rw [Hv.out]; rintro e w4 ⟨rfl, hb4⟩; have k4 := bBox hb4 w.heap.size (by omega); have hz4 : w.heap.size + 1 ≤ w4.heap.size := by have := hb4.size; omega))
  all_goals (go_ret; exact ⟨rfl, by repeat (first | exact Below.refl _ _ | refine bAlloc ?_ _ | refine bTrans ?_ (by assumption))⟩)
end Go.Proofs.Ytolkhkkkfpaenaa
