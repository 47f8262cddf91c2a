/- The walk of the law on SameFactors. -/
import Derived.Test.YtolkhkkkfpaenaaLists
import Derived.Test.YtolkhkkkfpaenaaSz
import Derived.Test.YtolkhkkkfpaenaaTo
import Derived.Test.YtolkhkkkfpaenaaEq
import Derived.Test.YtolkhkkkfpaenaaLaw
namespace Go.Proofs.Ytolkhkkkfpaenaa
open Go.RowKit
set_option linter.unusedVariables false
set_option linter.unusedSimpArgs false
set_option maxHeartbeats 1600000
set_option maxRecDepth 100000
theorem w_FnExactSameFactors (W : World) (A0 : Option Addr) (n0 c0 : Nat) (l0 : List Factor) (hn0 : n0 ≤ maxLen) (hr0 : RowF W A0 n0 l0) (hok0 : ∀ f ∈ l0, f.ok) (A1 : Option Addr) (n1 c1 : Nat) (l1 : List Factor) (hn1 : n1 ≤ maxLen) (hr1 : RowF W A1 n1 l1) (hok1 : ∀ f ∈ l1, f.ok) :
    Calls Try.prog 9 #[.slice A0 n0 c0, .slice A1 n1 c1] W fun e w' => e = rBool true ∧ Below W.heap.size W w' := by
  generalize hv : sameL l0 l1 = b
  have Hv := Lib.hid hv
  clear hv
  have H0 := Below.refl W.heap.size W
  go_enter Try.func9, Try.ntmps9
  go_wp2_with fail
  refine (szFactorS_c A0 n0 c0 l0 _ _ (by omega) (by omega) hn0 hr0 (okFactor hok0)).mono ?_
  rintro e w1 ⟨⟨r0, rfl, hp⟩, hb1⟩
  have hs1 := hb1.size
  have H := bTrans (H0 : Below W.heap.size W _) hb1
  rcases hp with rfl | ⟨hp0, hp1⟩
  · go_wp2_with fail
    go_ret
    exact ⟨rfl, H⟩
  have hr0l : r0 ≤ 1048576 := by have := hp1.out; omega
  have hr00 : 0 ≤ r0 := hp0
  have hm0 : n0 ≤ 1048576 := by have := hp1.out; omega
  have hbk0 : Hid (sumBulk Factor.bulk l0 ≤ 1048576) := by have := hp1.out; unfold Hid; omega
  clear hp0 hp1
  go_wp2_with fail
  refine (szFactorS_c A1 n1 c1 l1 _ _ hr00 hr0l hn1 (hr1.below H) (okFactor hok1)).mono ?_
  rintro e w2 ⟨⟨r1, rfl, hp⟩, hb2⟩
  have hs2 := hb2.size
  have H := bTrans H hb2
  rcases hp with rfl | ⟨hp0, hp1⟩
  · go_wp2_with fail
    go_ret
    exact ⟨rfl, H⟩
  have hr1l : r1 ≤ 1048576 := by have := hp1.out; omega
  have hr10 : 0 ≤ r1 := hp0
  have hm1 : n1 ≤ 1048576 := by have := hp1.out; omega
  have hbk1 : Hid (sumBulk Factor.bulk l1 ≤ 1048576) := by have := hp1.out; unfold Hid; omega
  clear hp0 hp1
  go_wp2_with fail
  refine (toFactorS_c A0 n0 c0 l0 _ hm0 (hr0.below H)).mono ?_
  rintro e w3 ⟨A_x1, c_x1, rfl, ho_x1, hb3⟩
  have hs3 := hb3.size
  have H := bTrans H hb3
  have hlu_x1 := Lib.hid ho_x1.lt
  go_wp2_with fail
  refine (toFactorS_c A1 n1 c1 l1 _ hm1 (hr1.below H)).mono ?_
  rintro e w4 ⟨A_x2, c_x2, rfl, ho_x2, hb4⟩
  have hs4 := hb4.size
  have H := bTrans H hb4
  have ho_x1 := ho_x1.below hb4
  have hlu_x2 := Lib.hid ho_x2.lt
  go_wp2_with fail
  refine (spec_SameFactors_c A_x1 A_x2 n0 n1 c_x1 c_x2 l0 l1 _ hm0 hm1 ho_x1.row ho_x2.row).mono ?_
  rintro e w5 ⟨hev, hb5⟩
  have hs5 := hb5.size
  have H := bTrans H hb5
  have ho_x1 := ho_x1.below hb5
  have ho_x2 := ho_x2.below hb5
  rw [Hv.out] at hev
  subst hev
  go_wp2_with fail
  refine (toFactorS_c A0 n0 c0 l0 _ hm0 (hr0.below H)).mono ?_
  rintro e w6 ⟨A_x3, c_x3, rfl, ho_x3, hb6⟩
  have hs6 := hb6.size
  have H := bTrans H hb6
  have ho_x1 := ho_x1.below hb6
  have ho_x2 := ho_x2.below hb6
  have hlu_x3 := Lib.hid ho_x3.lt
  go_wp2_with fail
  refine (toFactorS_c A1 n1 c1 l1 _ hm1 (hr1.below H)).mono ?_
  rintro e w7 ⟨A_x4, c_x4, rfl, ho_x4, hb7⟩
  have hs7 := hb7.size
  have H := bTrans H hb7
  have ho_x1 := ho_x1.below hb7
  have ho_x2 := ho_x2.below hb7
  have ho_x3 := ho_x3.below hb7
  have hlu_x4 := Lib.hid ho_x4.lt
  go_wp2_with fail
  refine (impl_SameFactors_c A_x3 A_x4 n0 n1 c_x3 c_x4 l0 l1 _ hm0 hm1 ho_x3.row ho_x4.row).mono ?_
  rintro e w8 ⟨hev, hb8⟩
  have hs8 := hb8.size
  have H := bTrans H hb8
  have ho_x1 := ho_x1.below hb8
  have ho_x2 := ho_x2.below hb8
  have ho_x3 := ho_x3.below hb8
  have ho_x4 := ho_x4.below hb8
  rw [Hv.out] at hev
  subst hev
  go_wp2_with fail
  refine (toFactorS_c A0 n0 c0 l0 _ hm0 (hr0.below H)).mono ?_
  rintro e w9 ⟨A_x5, c_x5, rfl, ho_x5, hb9⟩
  have hs9 := hb9.size
  have H := bTrans H hb9
  have ho_x1 := ho_x1.below hb9
  have ho_x2 := ho_x2.below hb9
  have ho_x3 := ho_x3.below hb9
  have ho_x4 := ho_x4.below hb9
  have hlu_x5 := Lib.hid ho_x5.lt
  go_wp2_with fail
  refine (eqFactorS_c A_x3 A_x5 n0 c_x3 c_x5 l0 _ (by omega) ho_x3.row ho_x5.row).mono ?_
  rintro e w10 ⟨rfl, hb10⟩
  have hs10 := hb10.size
  have H := bTrans H hb10
  have ho_x1 := ho_x1.below hb10
  have ho_x2 := ho_x2.below hb10
  have ho_x3 := ho_x3.below hb10
  have ho_x4 := ho_x4.below hb10
  have ho_x5 := ho_x5.below hb10
  go_wp2_with fail
  refine (toFactorS_c A1 n1 c1 l1 _ hm1 (hr1.below H)).mono ?_
  rintro e w11 ⟨A_x6, c_x6, rfl, ho_x6, hb11⟩
  have hs11 := hb11.size
  have H := bTrans H hb11
  have ho_x1 := ho_x1.below hb11
  have ho_x2 := ho_x2.below hb11
  have ho_x3 := ho_x3.below hb11
  have ho_x4 := ho_x4.below hb11
  have ho_x5 := ho_x5.below hb11
  have hlu_x6 := Lib.hid ho_x6.lt
  go_wp2_with fail
  refine (eqFactorS_c A_x4 A_x6 n1 c_x4 c_x6 l1 _ (by omega) ho_x4.row ho_x6.row).mono ?_
  rintro e w12 ⟨rfl, hb12⟩
  have hs12 := hb12.size
  have H := bTrans H hb12
  have ho_x1 := ho_x1.below hb12
  have ho_x2 := ho_x2.below hb12
  have ho_x3 := ho_x3.below hb12
  have ho_x4 := ho_x4.below hb12
  have ho_x5 := ho_x5.below hb12
  have ho_x6 := ho_x6.below hb12
  go_wp2_with fail
  go_ret
  exact ⟨rfl, H⟩
end Go.Proofs.Ytolkhkkkfpaenaa
