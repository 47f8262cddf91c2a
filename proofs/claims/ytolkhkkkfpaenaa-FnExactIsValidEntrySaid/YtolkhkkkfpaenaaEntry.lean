/- The walk of the law on IsValidEntry. -/
import Derived.Test.YtolkhkkkfpaenaaValid
import Derived.Test.YtolkhkkkfpaenaaSz
import Derived.Test.YtolkhkkkfpaenaaTo
import Derived.Test.YtolkhkkkfpaenaaLaw
namespace Go.Proofs.Ytolkhkkkfpaenaa
open Go.RowKit
set_option linter.unusedVariables false
set_option linter.unusedSimpArgs false
set_option maxHeartbeats 400000
set_option maxRecDepth 100000

theorem szEntry_c (rm : Bool) (eid id kind : Int) (fr to : ByteArray) (t x y wt : Int) (left : Int) (w : World) (h1 : 0 ≤ left) (h2 : left ≤ 1048576) (hf : fr.size ≤ maxLen) (ht : to.size ≤ maxLen) :
    Calls Try.prog 40 #[vEntry rm eid id kind fr to t x y wt, .int .i64 left] w fun e w' => SzPost left (fr.size + to.size) e ∧ Below w.heap.size w w' := by
  go_enter Try.func40, Try.ntmps40
  go_wp2_with (go_at_call 69; refine (szFactor_c _ _ _ _ _ _ _ _ _ _ h1 h2 hf ht).mono ?_; rintro e w1 ⟨⟨r, rfl, hp⟩, hb1⟩; rcases hp with rfl | ⟨hp0, hp1⟩)
  · go_ret
    exact ⟨⟨_, rfl, .inl rfl⟩, bTrans (bAlloc (Below.refl _ _) _) hb1⟩
  · go_ret
    exact ⟨⟨_, rfl, .inr ⟨hp0, hp1⟩⟩, bTrans (bAlloc (Below.refl _ _) _) hb1⟩
theorem toEntry_c (rm : Bool) (eid id kind : Int) (fr to : ByteArray) (t x y wt : Int) (w : World) :
    Calls Try.prog 42 #[vEntry rm eid id kind fr to t x y wt] w fun e w' => e = .returned (vEntry rm eid id kind fr to t x y wt) ∧ Below w.heap.size w w' := by
  go_enter Try.func42, Try.ntmps42
  go_wp2_with (go_at_call 70; refine (toFactor_x _ _ _ _ _ _ _ _ _).mono ?_; rintro e w1 ⟨rfl, rfl⟩)
  exact bodyPost_ret (v := vEntry rm eid id kind fr to t x y wt) (by simp [results, Try.results42, go_sem]) rfl ⟨rfl, by repeat (first | exact Below.refl _ _ | refine bAlloc ?_ _)⟩

theorem w_FnExactIsValidEntry (f : Entry) (hid : wfI f.id) (hok : f.factor.ok) (w : World) :
    Calls Try.prog 11 #[.agg (.bool f.remove :: .int .i64 f.id :: f.factor.cells).toArray] w fun e w' => e = rBool true ∧ Below w.heap.size w w' := by
  obtain ⟨rm, eid, id, kind, fr, to, ⟨t, x, y⟩, wt⟩ := f
  obtain ⟨h1, h2, _⟩ := hok
  show Calls Try.prog 11 #[vEntry rm eid id kind fr to t x y wt] w _
  dsimp only at h1 h2
  generalize hv : vldEntry ⟨rm, eid, ⟨id, kind, fr, to, ⟨t, x, y⟩, wt⟩⟩ = b
  have Hv := Lib.hid hv
  clear hv
  go_enter Try.func11, Try.ntmps11
  go_wp2_with (first
    | (go_at_call 40; refine (szEntry_c _ _ _ _ _ _ _ _ _ _ _ _ (by omega) (by omega) h1 h2).mono ?_; rintro e w1 ⟨⟨r, rfl, hp⟩, hb1⟩; have k1 := bBox hb1 w.heap.size (by simp); have hz1 := bsz1 hb1; rcases hp with rfl | ⟨hp0, hp1⟩)
    | (go_at_call 42; refine (toEntry_c _ _ _ _ _ _ _ _ _ _ _).mono ?_; rintro e w2 ⟨rfl, hb2⟩; have k2 := bBox hb2 w.heap.size (by omega); have hz2 : w.heap.size + 1 ≤ w2.heap.size := by have := hb2.size; omega)
    | (go_at_call 41; refine (spec_IsValidEntry_c _ _ _ _ _ _ _ _ _ _ _ (by have := hp1.out; omega) (by have := hp1.out; omega)).mono ?_; rw [Hv.out]; rintro e w3 ⟨rfl, hb3⟩; have k3 := bBox hb3 w.heap.size (by omega); have hz3 : w.heap.size + 1 ≤ w3.heap.size := by have := hb3.size; omega)
    | (go_at_call 43; refine (impl_IsValidEntry_c _ _ _ _ _ _ _ _ _ _ _ (by have := hp1.out; omega) (by have := hp1.out; omega)).mono ?_; rw [Hv.out]; rintro e w4 ⟨rfl, hb4⟩; have k4 := bBox hb4 w.heap.size (by omega); have hz4 : w.heap.size + 1 ≤ w4.heap.size := by have := hb4.size; omega))
  all_goals (go_ret; exact ⟨rfl, by repeat (first | exact Below.refl _ _ | refine bAlloc ?_ _ | refine bTrans ?_ (by assumption))⟩)
end Go.Proofs.Ytolkhkkkfpaenaa
