/- The walk of the law on FormatEntry. -/
import Derived.Test.YtbfajhfmfdiacaaDoorEntS
import Derived.Test.YtbfajhfmfdiacaaDoorEntI
import Derived.Test.YtbfajhfmfdiacaaDoorEntry
namespace Go.Proofs.YtbfajhfmfdiacaaDoor
open Go.RowKit
set_option linter.unusedVariables false
set_option linter.unusedSimpArgs false
set_option maxHeartbeats 1000000
set_option maxRecDepth 100000
theorem w_FnExactFormatEntry (w : World) (f : Entry) (hid : wfI f.id) (hok : f.factor.ok) (p : Int) (hp : (Lit.int .i64 p).wf = true) (hT : Tab w) :
    Calls Tryd.prog 6 #[.agg (.bool f.remove :: .int .i64 f.id :: f.factor.cells).toArray, .int .i64 p] w fun e w' => e = rBool true ∧ Below w.heap.size w w' := by
  obtain ⟨rm, eid, id, kind, fr, to, ⟨t, x, y⟩, wt⟩ := f
  obtain ⟨h1, h2, _⟩ := hok
  have hwe := bounds_i64 hid
  show Calls Tryd.prog 6 #[vEntry rm eid id kind fr to t x y wt, .int .i64 p] w _
  dsimp only at h1 h2 hwe
  generalize hv : fmtEnt ⟨rm, eid, ⟨id, kind, fr, to, ⟨t, x, y⟩, wt⟩⟩ p = b
  obtain ⟨s, n⟩ := b
  have Hv := Lib.hid hv
  have HT := Lib.hid hT
  have HE := Lib.hid hwe
  clear hv hT hid hp hwe
  go_enter Tryd.func6, Tryd.ntmps6
  go_wp2_with (first
    | (go_at_call 25; refine (szEntry_c _ _ _ _ _ _ _ _ _ _ _ _ (by omega) (by omega) h1 h2).mono ?_; rintro e w1 ⟨⟨r, rfl, hp⟩, hb1⟩; have k1 := bBox hb1 w.heap.size (by simp); have hz1 := bsz1 hb1; have B1 := bTrans (bAlloc (Below.refl w.heap.size w) _) hb1; rcases hp with rfl | ⟨hp0, hp1⟩)
    | (go_at_call 27; refine (toEntry_c _ _ _ _ _ _ _ _ _ _ _).mono ?_; rintro e w2 ⟨rfl, hb2⟩; have k2 := bBox hb2 w.heap.size (by omega); have hz2 : w.heap.size + 1 ≤ w2.heap.size := (by have := hb2.size; omega); have B2 : Below w.heap.size w w2 := bTrans (by with_reducible assumption) hb2)
    | (go_at_call 26; refine (spec_FormatEntry_c _ _ _ _ _ _ _ _ _ _ _ _ HE.out (by have := hp1.out; omega) (by have := hp1.out; omega)).mono ?_; rw [Hv.out]; rintro e w3 ⟨rfl, hb3⟩; have k3 := bBox hb3 w.heap.size (by omega); have hz3 : w.heap.size + 1 ≤ w3.heap.size := (by have := hb3.size; omega); have B3 : Below w.heap.size w w3 := bTrans (by with_reducible assumption) hb3)
    | (go_at_call 28; refine (impl_FormatEntry_c _ _ _ _ _ _ _ _ _ _ _ _ HE.out (by have := hp1.out; omega) (by have := hp1.out; omega) (HT.out.below (by with_reducible assumption))).mono ?_; rw [Hv.out]; rintro e w4 ⟨rfl, hb4⟩; have k4 := bBox hb4 w.heap.size (by omega); have hz4 : w.heap.size + 1 ≤ w4.heap.size := (by have := hb4.size; omega); have B4 : Below w.heap.size w w4 := bTrans (by with_reducible assumption) hb4))
  all_goals (go_ret; exact ⟨rfl, by with_reducible assumption⟩)
end Go.Proofs.YtbfajhfmfdiacaaDoor
