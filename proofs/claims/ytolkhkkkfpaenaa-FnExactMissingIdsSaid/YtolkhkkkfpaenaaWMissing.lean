/- The walk of the law on MissingIds. -/
import Derived.Test.YtolkhkkkfpaenaaLists
import Derived.Test.YtolkhkkkfpaenaaSz
import Derived.Test.YtolkhkkkfpaenaaTo
import Derived.Test.YtolkhkkkfpaenaaEq
import Derived.Test.YtolkhkkkfpaenaaMark
import Derived.Test.YtolkhkkkfpaenaaLaw
namespace Go.Proofs.Ytolkhkkkfpaenaa
open Go.RowKit
set_option linter.unusedVariables false
set_option linter.unusedSimpArgs false
set_option maxHeartbeats 1600000
set_option maxRecDepth 100000
theorem w_FnExactMissingIds (W : World) (A0 : Option Addr) (n0 c0 : Nat) (l0 : List Factor) (hn0 : n0 ≤ maxLen) (hr0 : RowF W A0 n0 l0) (hok0 : ∀ f ∈ l0, f.ok) (A1 : Option Addr) (n1 c1 : Nat) (l1 : List Factor) (hn1 : n1 ≤ maxLen) (hr1 : RowF W A1 n1 l1) (hok1 : ∀ f ∈ l1, f.ok) :
    Calls Try.prog 14 #[.slice A0 n0 c0, .slice A1 n1 c1] W fun e w' => e = rBool true ∧ Below W.heap.size W w' := by
  have H0 := Below.refl W.heap.size W
  go_enter Try.func14, Try.ntmps14
  go_wp2_with fail
  refine (szFactorS_c A0 n0 c0 l0 _ _ (by omega) (by omega) hn0 hr0 (okFactor hok0)).mono ?_
  rintro e w1 ⟨⟨r0, rfl, hp⟩, hb1⟩
  have hs1 := hb1.size
  have H := bTrans (H0 : Below W.heap.size W _) hb1
  rcases hp with rfl | ⟨hp0, hp1⟩
  · go_wp2_with fail
    go_ret
    exact ⟨rfl, H⟩
  have hr0l : r0 ≤ 1048576 := by have := hp1.out; omega
  have hr00 : 0 ≤ r0 := hp0
  have hm0 : n0 ≤ 1048576 := by have := hp1.out; omega
  have hbk0 : Hid (sumBulk Factor.bulk l0 ≤ 1048576) := by have := hp1.out; unfold Hid; omega
  clear hp0 hp1
  go_wp2_with fail
  refine (szFactorS_c A1 n1 c1 l1 _ _ hr00 hr0l hn1 (hr1.below H) (okFactor hok1)).mono ?_
  rintro e w2 ⟨⟨r1, rfl, hp⟩, hb2⟩
  have hs2 := hb2.size
  have H := bTrans H hb2
  rcases hp with rfl | ⟨hp0, hp1⟩
  · go_wp2_with fail
    go_ret
    exact ⟨rfl, H⟩
  have hr1l : r1 ≤ 1048576 := by have := hp1.out; omega
  have hr10 : 0 ≤ r1 := hp0
  have hm1 : n1 ≤ 1048576 := by have := hp1.out; omega
  have hbk1 : Hid (sumBulk Factor.bulk l1 ≤ 1048576) := by have := hp1.out; unfold Hid; omega
  clear hp0 hp1
  go_wp2_with fail
  refine (toFactorS_c A0 n0 c0 l0 _ hm0 (hr0.below H)).mono ?_
  rintro e w3 ⟨A_x1, c_x1, rfl, ho_x1, hb3⟩
  have hs3 := hb3.size
  have H := bTrans H hb3
  have hlu_x1 := Lib.hid ho_x1.lt
  go_wp2_with fail
  refine (toFactorS_c A1 n1 c1 l1 _ hm1 (hr1.below H)).mono ?_
  rintro e w4 ⟨A_x2, c_x2, rfl, ho_x2, hb4⟩
  have hs4 := hb4.size
  have H := bTrans H hb4
  have ho_x1 := ho_x1.below hb4
  have hlu_x2 := Lib.hid ho_x2.lt
  go_wp2_with fail
  refine (spec_MissingIds_c A_x1 A_x2 n0 n1 c_x1 c_x2 l0 l1 _ hm0 hm1 ho_x1.row ho_x2.row).mono ?_
  rintro e w5 ⟨A_w0, n_w0, c_w0, rfl, ho_w0, hb5, hm_w0⟩
  have hs5 := hb5.size
  have H := bTrans H hb5
  have ho_x1 := ho_x1.below hb5
  have ho_x2 := ho_x2.below hb5
  have hlu_w0 := Lib.hid ho_w0.lt
  go_wp2_with fail
  refine (toFactorS_c A0 n0 c0 l0 _ hm0 (hr0.below H)).mono ?_
  rintro e w6 ⟨A_x3, c_x3, rfl, ho_x3, hb6⟩
  have hs6 := hb6.size
  have H := bTrans H hb6
  have ho_x1 := ho_x1.below hb6
  have ho_x2 := ho_x2.below hb6
  have ho_w0 := ho_w0.below hb6
  have hlu_x3 := Lib.hid ho_x3.lt
  go_wp2_with fail
  refine (toFactorS_c A1 n1 c1 l1 _ hm1 (hr1.below H)).mono ?_
  rintro e w7 ⟨A_x4, c_x4, rfl, ho_x4, hb7⟩
  have hs7 := hb7.size
  have H := bTrans H hb7
  have ho_x1 := ho_x1.below hb7
  have ho_x2 := ho_x2.below hb7
  have ho_w0 := ho_w0.below hb7
  have ho_x3 := ho_x3.below hb7
  have hlu_x4 := Lib.hid ho_x4.lt
  go_wp2_with fail
  refine (impl_MissingIds_c A_x3 A_x4 n0 n1 c_x3 c_x4 l0 l1 _ hm0 hm1 ho_x3.row ho_x4.row).mono ?_
  rintro e w8 ⟨A_g0, n_g0, c_g0, rfl, ho_g0, hb8, hm_g0⟩
  have hs8 := hb8.size
  have H := bTrans H hb8
  have ho_x1 := ho_x1.below hb8
  have ho_x2 := ho_x2.below hb8
  have ho_w0 := ho_w0.below hb8
  have ho_x3 := ho_x3.below hb8
  have ho_x4 := ho_x4.below hb8
  have hlu_g0 := Lib.hid ho_g0.lt
  obtain rfl : n_g0 = n_w0 := by have h1 := ho_g0.len; have h2 := ho_w0.len; omega
  go_wp2_with fail
  refine (eqIntS_c A_g0 A_w0 n_g0 c_g0 c_w0 (missing l0 l1) _ (by omega) ho_g0.row ho_w0.row).mono ?_
  rintro e w9 ⟨rfl, hb9⟩
  have hs9 := hb9.size
  have H := bTrans H hb9
  have ho_x1 := ho_x1.below hb9
  have ho_x2 := ho_x2.below hb9
  have ho_w0 := ho_w0.below hb9
  have ho_x3 := ho_x3.below hb9
  have ho_x4 := ho_x4.below hb9
  have ho_g0 := ho_g0.below hb9
  go_wp2_with fail
  refine (toFactorS_c A0 n0 c0 l0 _ hm0 (hr0.below H)).mono ?_
  rintro e w10 ⟨A_x5, c_x5, rfl, ho_x5, hb10⟩
  have hs10 := hb10.size
  have H := bTrans H hb10
  have ho_x1 := ho_x1.below hb10
  have ho_x2 := ho_x2.below hb10
  have ho_w0 := ho_w0.below hb10
  have ho_x3 := ho_x3.below hb10
  have ho_x4 := ho_x4.below hb10
  have ho_g0 := ho_g0.below hb10
  have hlu_x5 := Lib.hid ho_x5.lt
  go_wp2_with fail
  refine (eqFactorS_c A_x3 A_x5 n0 c_x3 c_x5 l0 _ (by omega) ho_x3.row ho_x5.row).mono ?_
  rintro e w11 ⟨rfl, hb11⟩
  have hs11 := hb11.size
  have H := bTrans H hb11
  have ho_x1 := ho_x1.below hb11
  have ho_x2 := ho_x2.below hb11
  have ho_w0 := ho_w0.below hb11
  have ho_x3 := ho_x3.below hb11
  have ho_x4 := ho_x4.below hb11
  have ho_g0 := ho_g0.below hb11
  have ho_x5 := ho_x5.below hb11
  go_wp2_with fail
  refine (toFactorS_c A1 n1 c1 l1 _ hm1 (hr1.below H)).mono ?_
  rintro e w12 ⟨A_x6, c_x6, rfl, ho_x6, hb12⟩
  have hs12 := hb12.size
  have H := bTrans H hb12
  have ho_x1 := ho_x1.below hb12
  have ho_x2 := ho_x2.below hb12
  have ho_w0 := ho_w0.below hb12
  have ho_x3 := ho_x3.below hb12
  have ho_x4 := ho_x4.below hb12
  have ho_g0 := ho_g0.below hb12
  have ho_x5 := ho_x5.below hb12
  have hlu_x6 := Lib.hid ho_x6.lt
  go_wp2_with fail
  refine (eqFactorS_c A_x4 A_x6 n1 c_x4 c_x6 l1 _ (by omega) ho_x4.row ho_x6.row).mono ?_
  rintro e w13 ⟨rfl, hb13⟩
  have hs13 := hb13.size
  have H := bTrans H hb13
  have ho_x1 := ho_x1.below hb13
  have ho_x2 := ho_x2.below hb13
  have ho_w0 := ho_w0.below hb13
  have ho_x3 := ho_x3.below hb13
  have ho_x4 := ho_x4.below hb13
  have ho_g0 := ho_g0.below hb13
  have ho_x5 := ho_x5.below hb13
  have ho_x6 := ho_x6.below hb13
  go_wp2_with fail
  refine (markFactorS_c A_x3 n0 c_x3 _ _ (1) _ (by omega) (by omega) (by omega) ho_x3).mono ?_
  rintro e w14 ⟨rfl, ho_x3n, hg14⟩
  have hs14 := hg14.size
  have H := bGrown H hg14 (fun q hq => by have h1 := (hlu_x3.out q hq).1; omega)
  have ho_x1 := ho_x1.grown hg14 (fun g hg e => by have h1 := (hlu_x1.out g hg).2; have h2 := (hlu_x3.out g e).1; omega)
  have ho_x2 := ho_x2.grown hg14 (fun g hg e => by have h1 := (hlu_x2.out g hg).2; have h2 := (hlu_x3.out g e).1; omega)
  have ho_w0 := ho_w0.grown hg14 (fun g hg e => by have h1 := (hlu_w0.out g hg).2; have h2 := (hlu_x3.out g e).1; omega)
  have ho_x4 := ho_x4.grown hg14 (fun g hg e => by have h1 := (hlu_x4.out g hg).1; have h2 := (hlu_x3.out g e).2; omega)
  have ho_g0 := ho_g0.grown hg14 (fun g hg e => by have h1 := (hlu_g0.out g hg).1; have h2 := (hlu_x3.out g e).2; omega)
  have ho_x5 := ho_x5.grown hg14 (fun g hg e => by have h1 := (hlu_x5.out g hg).1; have h2 := (hlu_x3.out g e).2; omega)
  have ho_x6 := ho_x6.grown hg14 (fun g hg e => by have h1 := (hlu_x6.out g hg).1; have h2 := (hlu_x3.out g e).2; omega)
  have ho_x3 := ho_x3n
  clear ho_x3n
  go_wp2_with fail
  refine (markFactorS_c A_x4 n1 c_x4 _ _ (1 + 8 * (n0 : Int)) _ (by omega) (by omega) (by omega) ho_x4).mono ?_
  rintro e w15 ⟨rfl, ho_x4n, hg15⟩
  have hs15 := hg15.size
  have H := bGrown H hg15 (fun q hq => by have h1 := (hlu_x4.out q hq).1; omega)
  have ho_x1 := ho_x1.grown hg15 (fun g hg e => by have h1 := (hlu_x1.out g hg).2; have h2 := (hlu_x4.out g e).1; omega)
  have ho_x2 := ho_x2.grown hg15 (fun g hg e => by have h1 := (hlu_x2.out g hg).2; have h2 := (hlu_x4.out g e).1; omega)
  have ho_w0 := ho_w0.grown hg15 (fun g hg e => by have h1 := (hlu_w0.out g hg).2; have h2 := (hlu_x4.out g e).1; omega)
  have ho_x3 := ho_x3.grown hg15 (fun g hg e => by have h1 := (hlu_x3.out g hg).2; have h2 := (hlu_x4.out g e).1; omega)
  have ho_g0 := ho_g0.grown hg15 (fun g hg e => by have h1 := (hlu_g0.out g hg).1; have h2 := (hlu_x4.out g e).2; omega)
  have ho_x5 := ho_x5.grown hg15 (fun g hg e => by have h1 := (hlu_x5.out g hg).1; have h2 := (hlu_x4.out g e).2; omega)
  have ho_x6 := ho_x6.grown hg15 (fun g hg e => by have h1 := (hlu_x6.out g hg).1; have h2 := (hlu_x4.out g e).2; omega)
  have ho_x4 := ho_x4n
  clear ho_x4n
  go_wp2_with fail
  refine (eqIntS_c A_g0 A_w0 n_g0 c_g0 c_w0 (missing l0 l1) _ (by omega) ho_g0.row ho_w0.row).mono ?_
  rintro e w16 ⟨rfl, hb16⟩
  have hs16 := hb16.size
  have H := bTrans H hb16
  have ho_x1 := ho_x1.below hb16
  have ho_x2 := ho_x2.below hb16
  have ho_w0 := ho_w0.below hb16
  have ho_x3 := ho_x3.below hb16
  have ho_x4 := ho_x4.below hb16
  have ho_g0 := ho_g0.below hb16
  have ho_x5 := ho_x5.below hb16
  have ho_x6 := ho_x6.below hb16
  go_wp2_with fail
  refine (markIntS_c A_g0 n_g0 c_g0 _ _ (1) _ (by omega) (by omega) (by omega) ho_g0).mono ?_
  rintro e w17 ⟨rfl, ho_g0n, hg17⟩
  have hs17 := hg17.size
  have H := bGrown H hg17 (fun q hq => by have h1 := (hlu_g0.out q hq).1; omega)
  have ho_x1 := ho_x1.grown hg17 (fun g hg e => by have h1 := (hlu_x1.out g hg).2; have h2 := (hlu_g0.out g e).1; omega)
  have ho_x2 := ho_x2.grown hg17 (fun g hg e => by have h1 := (hlu_x2.out g hg).2; have h2 := (hlu_g0.out g e).1; omega)
  have ho_w0 := ho_w0.grown hg17 (fun g hg e => by have h1 := (hlu_w0.out g hg).2; have h2 := (hlu_g0.out g e).1; omega)
  have ho_x3 := ho_x3.grown hg17 (fun g hg e => by have h1 := (hlu_x3.out g hg).2; have h2 := (hlu_g0.out g e).1; omega)
  have ho_x4 := ho_x4.grown hg17 (fun g hg e => by have h1 := (hlu_x4.out g hg).2; have h2 := (hlu_g0.out g e).1; omega)
  have ho_x5 := ho_x5.grown hg17 (fun g hg e => by have h1 := (hlu_x5.out g hg).1; have h2 := (hlu_g0.out g e).2; omega)
  have ho_x6 := ho_x6.grown hg17 (fun g hg e => by have h1 := (hlu_x6.out g hg).1; have h2 := (hlu_g0.out g e).2; omega)
  have ho_g0 := ho_g0n
  clear ho_g0n
  go_wp2_with fail
  refine (heldIntS_c A_g0 n_g0 c_g0 (1) _ (by omega) (by omega) (by omega) ho_g0.row).mono ?_
  rintro e w18 ⟨rfl, hb18⟩
  have hs18 := hb18.size
  have H := bTrans H hb18
  have ho_x1 := ho_x1.below hb18
  have ho_x2 := ho_x2.below hb18
  have ho_w0 := ho_w0.below hb18
  have ho_x3 := ho_x3.below hb18
  have ho_x4 := ho_x4.below hb18
  have ho_g0 := ho_g0.below hb18
  have ho_x5 := ho_x5.below hb18
  have ho_x6 := ho_x6.below hb18
  go_wp2_with fail
  refine (toFactorS_c A0 n0 c0 l0 _ hm0 (hr0.below H)).mono ?_
  rintro e w19 ⟨A_x7, c_x7, rfl, ho_x7, hb19⟩
  have hs19 := hb19.size
  have H := bTrans H hb19
  have ho_x1 := ho_x1.below hb19
  have ho_x2 := ho_x2.below hb19
  have ho_w0 := ho_w0.below hb19
  have ho_x3 := ho_x3.below hb19
  have ho_x4 := ho_x4.below hb19
  have ho_g0 := ho_g0.below hb19
  have ho_x5 := ho_x5.below hb19
  have ho_x6 := ho_x6.below hb19
  have hlu_x7 := Lib.hid ho_x7.lt
  go_wp2_with fail
  refine (toFactorS_c A1 n1 c1 l1 _ hm1 (hr1.below H)).mono ?_
  rintro e w20 ⟨A_x8, c_x8, rfl, ho_x8, hb20⟩
  have hs20 := hb20.size
  have H := bTrans H hb20
  have ho_x1 := ho_x1.below hb20
  have ho_x2 := ho_x2.below hb20
  have ho_w0 := ho_w0.below hb20
  have ho_x3 := ho_x3.below hb20
  have ho_x4 := ho_x4.below hb20
  have ho_g0 := ho_g0.below hb20
  have ho_x5 := ho_x5.below hb20
  have ho_x6 := ho_x6.below hb20
  have ho_x7 := ho_x7.below hb20
  have hlu_x8 := Lib.hid ho_x8.lt
  go_wp2_with fail
  refine (impl_MissingIds_c A_x7 A_x8 n0 n1 c_x7 c_x8 l0 l1 _ hm0 hm1 ho_x7.row ho_x8.row).mono ?_
  rintro e w21 ⟨A_h0, n_h0, c_h0, rfl, ho_h0, hb21, hm_h0⟩
  have hs21 := hb21.size
  have H := bTrans H hb21
  have ho_x1 := ho_x1.below hb21
  have ho_x2 := ho_x2.below hb21
  have ho_w0 := ho_w0.below hb21
  have ho_x3 := ho_x3.below hb21
  have ho_x4 := ho_x4.below hb21
  have ho_g0 := ho_g0.below hb21
  have ho_x5 := ho_x5.below hb21
  have ho_x6 := ho_x6.below hb21
  have ho_x7 := ho_x7.below hb21
  have ho_x8 := ho_x8.below hb21
  have hlu_h0 := Lib.hid ho_h0.lt
  obtain rfl : n_h0 = n_g0 := by have h1 := ho_h0.len; have h2 := ho_w0.len; omega
  go_wp2_with fail
  refine (eqIntS_c A_h0 A_w0 n_h0 c_h0 c_w0 (missing l0 l1) _ (by omega) ho_h0.row ho_w0.row).mono ?_
  rintro e w22 ⟨rfl, hb22⟩
  have hs22 := hb22.size
  have H := bTrans H hb22
  have ho_x1 := ho_x1.below hb22
  have ho_x2 := ho_x2.below hb22
  have ho_w0 := ho_w0.below hb22
  have ho_x3 := ho_x3.below hb22
  have ho_x4 := ho_x4.below hb22
  have ho_g0 := ho_g0.below hb22
  have ho_x5 := ho_x5.below hb22
  have ho_x6 := ho_x6.below hb22
  have ho_x7 := ho_x7.below hb22
  have ho_x8 := ho_x8.below hb22
  have ho_h0 := ho_h0.below hb22
  go_wp2_with fail
  refine (heldIntS_c A_g0 n_h0 c_g0 (1) _ (by omega) (by omega) (by omega) ho_g0.row).mono ?_
  rintro e w23 ⟨rfl, hb23⟩
  have hs23 := hb23.size
  have H := bTrans H hb23
  have ho_x1 := ho_x1.below hb23
  have ho_x2 := ho_x2.below hb23
  have ho_w0 := ho_w0.below hb23
  have ho_x3 := ho_x3.below hb23
  have ho_x4 := ho_x4.below hb23
  have ho_g0 := ho_g0.below hb23
  have ho_x5 := ho_x5.below hb23
  have ho_x6 := ho_x6.below hb23
  have ho_x7 := ho_x7.below hb23
  have ho_x8 := ho_x8.below hb23
  have ho_h0 := ho_h0.below hb23
  go_wp2_with fail
  go_ret
  exact ⟨rfl, H⟩
end Go.Proofs.Ytolkhkkkfpaenaa
