/- The walk of the law on IsValidEntry. -/
import Derived.Test.YtgpmmmfnbphgdaaDoorValid
import Derived.Test.YtgpmmmfnbphgdaaDoorSz
import Derived.Test.YtgpmmmfnbphgdaaDoorTo
import Derived.Test.YtgpmmmfnbphgdaaDoorLaw
namespace Go.Proofs.YtgpmmmfnbphgdaaDoor
open Go.RowKit
set_option linter.unusedVariables false
set_option linter.unusedSimpArgs false
set_option maxHeartbeats 400000
set_option maxRecDepth 100000

theorem szEntry_c (rm : Bool) (eid id kind : Int) (fr to : ByteArray) (t x y wt : Int) (left : Int) (w : World) (h1 : 0 ≤ left) (h2 : left ≤ 1048576) (hf : fr.size ≤ maxLen) (ht : to.size ≤ maxLen) :
    Calls Tryd.prog 55 #[vEntry rm eid id kind fr to t x y wt, .int .i64 left] w fun e w' => SzPost left (fr.size + to.size) e ∧ Below w.heap.size w w' := by
  go_enter Tryd.func55, Tryd.ntmps55
  go_wp2_with fail
  refine Calls.mono (szFactor_c _ _ _ _ _ _ _ _ _ _ h1 h2 hf ht) ?_
  rintro e w1 ⟨⟨r, rfl, hp⟩, hb1⟩
  rcases hp with rfl | ⟨hp0, hp1⟩
  · go_wp2_with fail
    go_ret
    exact ⟨⟨_, rfl, .inl rfl⟩, bTrans (bAlloc (Below.refl _ _) _) hb1⟩
  · have hn : ¬ r < 0 := by omega
    go_wp2_with fail
    go_ret
    exact ⟨⟨_, rfl, .inr ⟨hp0, hp1⟩⟩, bTrans (bAlloc (Below.refl _ _) _) hb1⟩
theorem toEntry_c (rm : Bool) (eid id kind : Int) (fr to : ByteArray) (t x y wt : Int) (w : World) :
    Calls Tryd.prog 57 #[vEntry rm eid id kind fr to t x y wt] w fun e w' => e = .returned (vEntry rm eid id kind fr to t x y wt) ∧ Below w.heap.size w w' := by
  go_enter Tryd.func57, Tryd.ntmps57
  go_wp2_with (go_at_call 117; refine (toFactor_x _ _ _ _ _ _ _ _ _).mono ?_; rintro e w1 ⟨rfl, rfl⟩)
  exact bodyPost_ret (v := vEntry rm eid id kind fr to t x y wt) (by simp [results, Tryd.results57, go_sem]) rfl ⟨rfl, by repeat (first | exact Below.refl _ _ | refine bAlloc ?_ _)⟩
end Go.Proofs.YtgpmmmfnbphgdaaDoor
