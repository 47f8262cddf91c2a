/- The walk of the law on IsPlaceList. -/
import Derived.Test.YtolkhkkkfpaenaaPlaces
import Derived.Test.YtolkhkkkfpaenaaSz
import Derived.Test.YtolkhkkkfpaenaaTo
import Derived.Test.YtolkhkkkfpaenaaEq
import Derived.Test.YtolkhkkkfpaenaaLaw
namespace Go.Proofs.Ytolkhkkkfpaenaa
open Go.RowKit
set_option linter.unusedVariables false
set_option linter.unusedSimpArgs false
set_option maxHeartbeats 1600000
set_option maxRecDepth 100000
theorem w_FnExactIsPlaceList (W : World) (A0 : Option Addr) (n0 c0 : Nat) (l0 : List Place) (hn0 : n0 ≤ maxLen) (hr0 : RowP W A0 n0 l0) (hok0 : ∀ f ∈ l0, f.ok) :
    Calls Try.prog 10 #[.slice A0 n0 c0] W fun e w' => e = rBool true ∧ Below W.heap.size W w' := by
  generalize hv : isPL l0 = b
  have Hv := Lib.hid hv
  clear hv
  have H0 := Below.refl W.heap.size W
  go_enter Try.func10, Try.ntmps10
  go_wp2_with fail
  refine (szPlaceS_c A0 n0 c0 l0 _ _ (by omega) (by omega) hn0 hr0 (okPlace hok0)).mono ?_
  rintro e w1 ⟨⟨r0, rfl, hp⟩, hb1⟩
  have hs1 := hb1.size
  have H := bTrans (H0 : Below W.heap.size W _) hb1
  rcases hp with rfl | ⟨hp0, hp1⟩
  · go_wp2_with fail
    go_ret
    exact ⟨rfl, H⟩
  have hr0l : r0 ≤ 1048576 := by have := hp1.out; omega
  have hr00 : 0 ≤ r0 := hp0
  have hm0 : n0 ≤ 1048576 := by have := hp1.out; omega
  have hbk0 : Hid (sumBulk Place.bulk l0 ≤ 1048576) := by have := hp1.out; unfold Hid; omega
  clear hp0 hp1
  go_wp2_with fail
  refine (toPlaceS_c A0 n0 c0 l0 _ hm0 (hr0.below H)).mono ?_
  rintro e w2 ⟨A_x1, c_x1, rfl, ho_x1, hb2⟩
  have hs2 := hb2.size
  have H := bTrans H hb2
  have hlu_x1 := Lib.hid ho_x1.lt
  go_wp2_with fail
  refine (spec_IsPlaceList_c A_x1 n0 c_x1 l0 _ hm0 ho_x1.nc.1 ho_x1.nc.2 ho_x1.row (smallP hbk0)).mono ?_
  rintro e w3 ⟨hev, hb3⟩
  have hs3 := hb3.size
  have H := bTrans H hb3
  have ho_x1 := ho_x1.below hb3
  rw [Hv.out] at hev
  subst hev
  go_wp2_with fail
  refine (toPlaceS_c A0 n0 c0 l0 _ hm0 (hr0.below H)).mono ?_
  rintro e w4 ⟨A_x2, c_x2, rfl, ho_x2, hb4⟩
  have hs4 := hb4.size
  have H := bTrans H hb4
  have ho_x1 := ho_x1.below hb4
  have hlu_x2 := Lib.hid ho_x2.lt
  go_wp2_with fail
  refine (impl_IsPlaceList_c A_x2 n0 c_x2 l0 _ hm0 ho_x2.row (smallP hbk0)).mono ?_
  rintro e w5 ⟨hev, hb5⟩
  have hs5 := hb5.size
  have H := bTrans H hb5
  have ho_x1 := ho_x1.below hb5
  have ho_x2 := ho_x2.below hb5
  rw [Hv.out] at hev
  subst hev
  go_wp2_with fail
  refine (toPlaceS_c A0 n0 c0 l0 _ hm0 (hr0.below H)).mono ?_
  rintro e w6 ⟨A_x3, c_x3, rfl, ho_x3, hb6⟩
  have hs6 := hb6.size
  have H := bTrans H hb6
  have ho_x1 := ho_x1.below hb6
  have ho_x2 := ho_x2.below hb6
  have hlu_x3 := Lib.hid ho_x3.lt
  go_wp2_with fail
  refine (eqPlaceS_c A_x2 A_x3 n0 c_x2 c_x3 l0 _ (by omega) ho_x2.row ho_x3.row).mono ?_
  rintro e w7 ⟨rfl, hb7⟩
  have hs7 := hb7.size
  have H := bTrans H hb7
  have ho_x1 := ho_x1.below hb7
  have ho_x2 := ho_x2.below hb7
  have ho_x3 := ho_x3.below hb7
  go_wp2_with fail
  go_ret
  exact ⟨rfl, H⟩
end Go.Proofs.Ytolkhkkkfpaenaa
