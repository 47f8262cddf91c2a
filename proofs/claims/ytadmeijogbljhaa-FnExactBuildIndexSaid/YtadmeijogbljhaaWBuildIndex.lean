/- The walk of the law FnExactBuildIndex. -/
import Derived.Test.YtadmeijogbljhaaIdx
import Derived.Test.YtadmeijogbljhaaBuildK
namespace Go.Proofs.Ytadmeijogbljhaa
open Go.RowKit
set_option linter.unusedVariables false
set_option linter.unusedSimpArgs false
set_option maxHeartbeats 1600000
set_option maxRecDepth 100000
theorem w_FnExactBuildIndex (W : World) (v0 : Sv) (d0 : List Place) (hr0 : RdP W v0 d0) (hok0 : okP d0) (hl0 : lenP v0) :
    Calls Try.prog 11 #[.slice v0.A v0.n v0.c] W fun e w' => e = rBool true ∧ Below W.heap.size W w' := by
  go_enter Try.func11, Try.ntmps11
  go_wp2_with fail
  refine Calls.mono (szPlaceS_k v0 d0 _ _ (by omega) (by omega) hl0 hok0 ?_) ?_
  · exact hr0.below (by repeat (first | with_reducible exact Below.refl _ _ | with_reducible refine bAlloc ?_ _))
  rintro e w1 ⟨⟨r0, rfl, hp⟩, hb1⟩
  have hk1 : Below W.heap.size W w1 := bTrans (by repeat (first | with_reducible exact Below.refl _ _ | with_reducible refine bAlloc ?_ _)) hb1
  have hs1 := hk1.size
  have hz1 := hb1.size
  (try simp at hz1)
  have H := bTrans (Below.refl _ W) hk1
  rcases hp with rfl | ⟨hp0, hp1⟩
  · go_wp2_with fail
    go_ret
    exact ⟨rfl, H⟩
  have hrl0 : r0 ≤ 1048576 := by have := hp1.out; omega
  have hr00 : 0 ≤ r0 := hp0
  have hm0 : bulkP d0 ≤ 1048576 := by have := hp1.out; omega
  have HM0 := Lib.hid hm0
  have hfw0 := fewP_of hm0
  clear hp0 hp1
  go_wp2_with fail
  refine Calls.mono (toPlaceS_k v0 d0 _ hfw0 ?_) ?_
  · exact hr0.below (by repeat (first | with_reducible exact H | with_reducible refine bAlloc ?_ _))
  rintro e w2 ⟨v_x1, rfl, ho_x1, hf_x1, hb2⟩
  have hk2 : Below w1.heap.size w1 w2 := bTrans (by repeat (first | with_reducible exact Below.refl _ _ | with_reducible refine bAlloc ?_ _)) hb2
  have hs2 := hk2.size
  have hz2 := hb2.size
  (try simp at hz2)
  have H := bTrans H hk2
  have hlo_x1 : Hid (∀ q ∈ fpP v_x1, w1.heap.size ≤ q) := fun q hq => by have h1 := hf_x1.lo q hq; (try simp at h1); omega
  have hhi_x1 : Hid (∀ q ∈ fpP v_x1, q < w2.heap.size) := hf_x1.hi
  go_wp2_with fail
  refine Calls.mono (spec_BuildIndex_k v_x1 d0 _ HM0.out hok0 ?_) ?_
  · exact (ho_x1.below (by repeat (first | with_reducible exact Below.refl _ _ | with_reducible refine bAlloc ?_ _)))
  rintro e w3 ⟨v_w0, rfl, ho_w0, hf_w0, hb3⟩
  have hk3 : Below w2.heap.size w2 w3 := bTrans (by repeat (first | with_reducible exact Below.refl _ _ | with_reducible refine bAlloc ?_ _)) hb3
  have hs3 := hk3.size
  have hz3 := hb3.size
  (try simp at hz3)
  have ho_x1 := ho_x1.below hk3
  have H := bTrans H hk3
  have hlo_w0 : Hid (∀ q ∈ fpX v_w0, w2.heap.size ≤ q) := fun q hq => by have h1 := hf_w0.lo q hq; (try simp at h1); omega
  have hhi_w0 : Hid (∀ q ∈ fpX v_w0, q < w3.heap.size) := hf_w0.hi
  go_wp2_with fail
  refine Calls.mono (toPlaceS_k v0 d0 _ hfw0 ?_) ?_
  · exact hr0.below (by repeat (first | with_reducible exact H | with_reducible refine bAlloc ?_ _))
  rintro e w4 ⟨v_x2, rfl, ho_x2, hf_x2, hb4⟩
  have hk4 : Below w3.heap.size w3 w4 := bTrans (by repeat (first | with_reducible exact Below.refl _ _ | with_reducible refine bAlloc ?_ _)) hb4
  have hs4 := hk4.size
  have hz4 := hb4.size
  (try simp at hz4)
  have kb4_w0 := bBox hb4 (w3.heap.size) (by first | omega | (simp; done) | (simp; omega))
  have hlt4_w0 : w3.heap.size < w4.heap.size := by omega
  have ho_x1 := ho_x1.below hk4
  have ho_w0 := ho_w0.below hk4
  have H := bTrans H hk4
  have hlo_x2 : Hid (∀ q ∈ fpP v_x2, w3.heap.size + 1 ≤ q) := fun q hq => by have h1 := hf_x2.lo q hq; (try simp at h1); omega
  have hhi_x2 : Hid (∀ q ∈ fpP v_x2, q < w4.heap.size) := hf_x2.hi
  go_wp2_with fail
  refine Calls.mono (impl_BuildIndex_k v_x2 d0 _ HM0.out hok0 ?_) ?_
  · exact (ho_x2.below (by repeat (first | with_reducible exact Below.refl _ _ | with_reducible refine bAlloc ?_ _)))
  rintro e w5 ⟨v_g0, rfl, ho_g0, hf_g0, hb5⟩
  have hk5 : Below w4.heap.size w4 w5 := bTrans (by repeat (first | with_reducible exact Below.refl _ _ | with_reducible refine bAlloc ?_ _)) hb5
  have hs5 := hk5.size
  have hz5 := hb5.size
  (try simp at hz5)
  have kb5_w0 := bBox hk5 (w3.heap.size) (by omega)
  have hlt5_w0 : w3.heap.size < w5.heap.size := by omega
  have ho_x1 := ho_x1.below hk5
  have ho_w0 := ho_w0.below hk5
  have ho_x2 := ho_x2.below hk5
  have H := bTrans H hk5
  have hlo_g0 : Hid (∀ q ∈ fpX v_g0, w4.heap.size ≤ q) := fun q hq => by have h1 := hf_g0.lo q hq; (try simp at h1); omega
  have hhi_g0 : Hid (∀ q ∈ fpX v_g0, q < w5.heap.size) := hf_g0.hi
  go_wp2_with fail
  refine Calls.mono (eqPlaceIndex_k v_g0 v_w0 ((buildIdx d0).1) _ (fewX_build d0) ?_ ?_) ?_
  · exact (ho_g0.rd.below (by repeat (first | with_reducible exact Below.refl _ _ | with_reducible refine bAlloc ?_ _)))
  · exact (ho_w0.rd.below (by repeat (first | with_reducible exact Below.refl _ _ | with_reducible refine bAlloc ?_ _)))
  rintro e w6 ⟨rfl, hb6⟩
  have hk6 : Below w5.heap.size w5 w6 := bTrans (by repeat (first | with_reducible exact Below.refl _ _ | with_reducible refine bAlloc ?_ _)) hb6
  have hs6 := hk6.size
  have hz6 := hb6.size
  (try simp at hz6)
  have kb6_w0 := bBox hk6 (w3.heap.size) (by omega)
  have kb6_g0 := bBox hb6 (w5.heap.size) (by first | omega | (simp; done) | (simp; omega))
  have hlt6_w0 : w3.heap.size < w6.heap.size := by omega
  have hlt6_g0 : w5.heap.size < w6.heap.size := by omega
  have ho_x1 := ho_x1.below hk6
  have ho_w0 := ho_w0.below hk6
  have ho_x2 := ho_x2.below hk6
  have ho_g0 := ho_g0.below hk6
  have H := bTrans H hk6
  go_wp2_with fail
  refine Calls.mono (toPlaceS_k v0 d0 _ hfw0 ?_) ?_
  · exact hr0.below (by repeat (first | with_reducible exact H | with_reducible refine bAlloc ?_ _))
  rintro e w7 ⟨v_x3, rfl, ho_x3, hf_x3, hb7⟩
  have hk7 : Below w6.heap.size w6 w7 := bTrans (by repeat (first | with_reducible exact Below.refl _ _ | with_reducible refine bAlloc ?_ _)) hb7
  have hs7 := hk7.size
  have hz7 := hb7.size
  (try simp at hz7)
  have kb7_w0 := bBox hk7 (w3.heap.size) (by omega)
  have kb7_g0 := bBox hk7 (w5.heap.size) (by omega)
  have hlt7_w0 : w3.heap.size < w7.heap.size := by omega
  have hlt7_g0 : w5.heap.size < w7.heap.size := by omega
  have ho_x1 := ho_x1.below hk7
  have ho_w0 := ho_w0.below hk7
  have ho_x2 := ho_x2.below hk7
  have ho_g0 := ho_g0.below hk7
  have H := bTrans H hk7
  have hlo_x3 : Hid (∀ q ∈ fpP v_x3, w6.heap.size ≤ q) := fun q hq => by have h1 := hf_x3.lo q hq; (try simp at h1); omega
  have hhi_x3 : Hid (∀ q ∈ fpP v_x3, q < w7.heap.size) := hf_x3.hi
  go_wp2_with fail
  refine Calls.mono (eqPlaceS_k v_x2 v_x3 d0 _ hfw0 ?_ ?_) ?_
  · exact (ho_x2.rd.below (by repeat (first | with_reducible exact Below.refl _ _ | with_reducible refine bAlloc ?_ _)))
  · exact (ho_x3.rd.below (by repeat (first | with_reducible exact Below.refl _ _ | with_reducible refine bAlloc ?_ _)))
  rintro e w8 ⟨rfl, hb8⟩
  have hk8 : Below w7.heap.size w7 w8 := bTrans (by repeat (first | with_reducible exact Below.refl _ _ | with_reducible refine bAlloc ?_ _)) hb8
  have hs8 := hk8.size
  have hz8 := hb8.size
  (try simp at hz8)
  have kb8_w0 := bBox hk8 (w3.heap.size) (by omega)
  have kb8_g0 := bBox hk8 (w5.heap.size) (by omega)
  have hlt8_w0 : w3.heap.size < w8.heap.size := by omega
  have hlt8_g0 : w5.heap.size < w8.heap.size := by omega
  have ho_x1 := ho_x1.below hk8
  have ho_w0 := ho_w0.below hk8
  have ho_x2 := ho_x2.below hk8
  have ho_g0 := ho_g0.below hk8
  have ho_x3 := ho_x3.below hk8
  have H := bTrans H hk8
  go_wp2_with fail
  refine Calls.mono (markPlaceS_k v_x2 d0 _ _ (by omega) (by omega) hfw0 ?_ hf_x2.nodup) ?_
  · exact (ho_x2.below (by repeat (first | with_reducible exact Below.refl _ _ | with_reducible refine bAlloc ?_ _)))
  rintro e w9 ⟨rfl, ho_x2n, hu9⟩
  have hv9 : Upd (fpP v_x2) w8 w9 := (Upd.of_below (by repeat (first | with_reducible exact Below.refl _ _ | with_reducible refine bAlloc ?_ _))).trans hu9
  have hs9 := hv9.size
  have hz9 := hu9.size
  (try simp at hz9)
  have kb9_w0 := uBox hv9 (w3.heap.size) (by omega) (fun hm => by have h1 := hlo_x2.out _ hm; have h2 := hhi_x2.out _ hm; omega)
  have kb9_g0 := uBox hv9 (w5.heap.size) (by omega) (fun hm => by have h1 := hlo_x2.out _ hm; have h2 := hhi_x2.out _ hm; omega)
  have hlt9_w0 : w3.heap.size < w9.heap.size := by omega
  have hlt9_g0 : w5.heap.size < w9.heap.size := by omega
  have ho_x1 := ho_x1.upd hv9 (fun q hq hm => by have h1 := hlo_x1.out q hq; have h2 := hhi_x1.out q hq; have h3 := hlo_x2.out q hm; have h4 := hhi_x2.out q hm; omega)
  have ho_w0 := ho_w0.upd hv9 (fun q hq hm => by have h1 := hlo_w0.out q hq; have h2 := hhi_w0.out q hq; have h3 := hlo_x2.out q hm; have h4 := hhi_x2.out q hm; omega)
  have ho_g0 := ho_g0.upd hv9 (fun q hq hm => by have h1 := hlo_g0.out q hq; have h2 := hhi_g0.out q hq; have h3 := hlo_x2.out q hm; have h4 := hhi_x2.out q hm; omega)
  have ho_x3 := ho_x3.upd hv9 (fun q hq hm => by have h1 := hlo_x3.out q hq; have h2 := hhi_x3.out q hq; have h3 := hlo_x2.out q hm; have h4 := hhi_x2.out q hm; omega)
  have H := bUpd H hv9 (fun q hq => by have h1 := hlo_x2.out q hq; omega)
  have ho_x2 := ho_x2n
  clear ho_x2n
  have hc9 := cntP_few (show fewP d0 from hfw0)
  go_wp2_with fail
  refine Calls.mono (eqPlaceIndex_k v_g0 v_w0 ((buildIdx d0).1) _ (fewX_build d0) ?_ ?_) ?_
  · exact (ho_g0.rd.below (by repeat (first | with_reducible exact Below.refl _ _ | with_reducible refine bAlloc ?_ _)))
  · exact (ho_w0.rd.below (by repeat (first | with_reducible exact Below.refl _ _ | with_reducible refine bAlloc ?_ _)))
  rintro e w10 ⟨rfl, hb10⟩
  have hk10 : Below w9.heap.size w9 w10 := bTrans (by repeat (first | with_reducible exact Below.refl _ _ | with_reducible refine bAlloc ?_ _)) hb10
  have hs10 := hk10.size
  have hz10 := hb10.size
  (try simp at hz10)
  have kb10_w0 := bBox hk10 (w3.heap.size) (by omega)
  have kb10_g0 := bBox hk10 (w5.heap.size) (by omega)
  have hlt10_w0 : w3.heap.size < w10.heap.size := by omega
  have hlt10_g0 : w5.heap.size < w10.heap.size := by omega
  have ho_x1 := ho_x1.below hk10
  have ho_w0 := ho_w0.below hk10
  have ho_x2 := ho_x2.below hk10
  have ho_g0 := ho_g0.below hk10
  have ho_x3 := ho_x3.below hk10
  have H := bTrans H hk10
  go_wp2_with fail
  refine Calls.mono (markPlaceIndex_k v_g0 ((buildIdx d0).1) _ _ (by omega) (by omega) (fewX_build d0) ?_ hf_g0.nodup) ?_
  · exact (ho_g0.below (by repeat (first | with_reducible exact Below.refl _ _ | with_reducible refine bAlloc ?_ _)))
  rintro e w11 ⟨rfl, ho_g0n, hu11⟩
  have hv11 : Upd (fpX v_g0) w10 w11 := (Upd.of_below (by repeat (first | with_reducible exact Below.refl _ _ | with_reducible refine bAlloc ?_ _))).trans hu11
  have hs11 := hv11.size
  have hz11 := hu11.size
  (try simp at hz11)
  have kb11_w0 := uBox hv11 (w3.heap.size) (by omega) (fun hm => by have h1 := hlo_g0.out _ hm; have h2 := hhi_g0.out _ hm; omega)
  have kb11_g0 := uBox hv11 (w5.heap.size) (by omega) (fun hm => by have h1 := hlo_g0.out _ hm; have h2 := hhi_g0.out _ hm; omega)
  have hlt11_w0 : w3.heap.size < w11.heap.size := by omega
  have hlt11_g0 : w5.heap.size < w11.heap.size := by omega
  have ho_x1 := ho_x1.upd hv11 (fun q hq hm => by have h1 := hlo_x1.out q hq; have h2 := hhi_x1.out q hq; have h3 := hlo_g0.out q hm; have h4 := hhi_g0.out q hm; omega)
  have ho_w0 := ho_w0.upd hv11 (fun q hq hm => by have h1 := hlo_w0.out q hq; have h2 := hhi_w0.out q hq; have h3 := hlo_g0.out q hm; have h4 := hhi_g0.out q hm; omega)
  have ho_x2 := ho_x2.upd hv11 (fun q hq hm => by have h1 := hlo_x2.out q hq; have h2 := hhi_x2.out q hq; have h3 := hlo_g0.out q hm; have h4 := hhi_g0.out q hm; omega)
  have ho_x3 := ho_x3.upd hv11 (fun q hq hm => by have h1 := hlo_x3.out q hq; have h2 := hhi_x3.out q hq; have h3 := hlo_g0.out q hm; have h4 := hhi_g0.out q hm; omega)
  have H := bUpd H hv11 (fun q hq => by have h1 := hlo_g0.out q hq; omega)
  have ho_g0 := ho_g0n
  clear ho_g0n
  have hc11 := cntX_few (show fewX ((buildIdx d0).1) from (fewX_build d0))
  go_wp2_with fail
  refine Calls.mono (heldPlaceIndex_k v_g0 ((buildIdx d0).1) _ _ (by omega) (by omega) (fewX_build d0) ?_) ?_
  · exact (ho_g0.rd.below (by repeat (first | with_reducible exact Below.refl _ _ | with_reducible refine bAlloc ?_ _)))
  rintro e w12 ⟨rfl, hb12⟩
  have hk12 : Below w11.heap.size w11 w12 := bTrans (by repeat (first | with_reducible exact Below.refl _ _ | with_reducible refine bAlloc ?_ _)) hb12
  have hs12 := hk12.size
  have hz12 := hb12.size
  (try simp at hz12)
  have kb12_w0 := bBox hk12 (w3.heap.size) (by omega)
  have kb12_g0 := bBox hk12 (w5.heap.size) (by omega)
  have hlt12_w0 : w3.heap.size < w12.heap.size := by omega
  have hlt12_g0 : w5.heap.size < w12.heap.size := by omega
  have ho_x1 := ho_x1.below hk12
  have ho_w0 := ho_w0.below hk12
  have ho_x2 := ho_x2.below hk12
  have ho_g0 := ho_g0.below hk12
  have ho_x3 := ho_x3.below hk12
  have H := bTrans H hk12
  go_wp2_with fail
  refine Calls.mono (toPlaceS_k v0 d0 _ hfw0 ?_) ?_
  · exact hr0.below (by repeat (first | with_reducible exact H | with_reducible refine bAlloc ?_ _))
  rintro e w13 ⟨v_x4, rfl, ho_x4, hf_x4, hb13⟩
  have hk13 : Below w12.heap.size w12 w13 := bTrans (by repeat (first | with_reducible exact Below.refl _ _ | with_reducible refine bAlloc ?_ _)) hb13
  have hs13 := hk13.size
  have hz13 := hb13.size
  (try simp at hz13)
  have kb13_w0 := bBox hk13 (w3.heap.size) (by omega)
  have kb13_g0 := bBox hk13 (w5.heap.size) (by omega)
  have hlt13_w0 : w3.heap.size < w13.heap.size := by omega
  have hlt13_g0 : w5.heap.size < w13.heap.size := by omega
  have ho_x1 := ho_x1.below hk13
  have ho_w0 := ho_w0.below hk13
  have ho_x2 := ho_x2.below hk13
  have ho_g0 := ho_g0.below hk13
  have ho_x3 := ho_x3.below hk13
  have H := bTrans H hk13
  have hlo_x4 : Hid (∀ q ∈ fpP v_x4, w12.heap.size ≤ q) := fun q hq => by have h1 := hf_x4.lo q hq; (try simp at h1); omega
  have hhi_x4 : Hid (∀ q ∈ fpP v_x4, q < w13.heap.size) := hf_x4.hi
  go_wp2_with fail
  refine Calls.mono (impl_BuildIndex_k v_x4 d0 _ HM0.out hok0 ?_) ?_
  · exact (ho_x4.below (by repeat (first | with_reducible exact Below.refl _ _ | with_reducible refine bAlloc ?_ _)))
  rintro e w14 ⟨v_h0, rfl, ho_h0, hf_h0, hb14⟩
  have hk14 : Below w13.heap.size w13 w14 := bTrans (by repeat (first | with_reducible exact Below.refl _ _ | with_reducible refine bAlloc ?_ _)) hb14
  have hs14 := hk14.size
  have hz14 := hb14.size
  (try simp at hz14)
  have kb14_w0 := bBox hk14 (w3.heap.size) (by omega)
  have kb14_g0 := bBox hk14 (w5.heap.size) (by omega)
  have hlt14_w0 : w3.heap.size < w14.heap.size := by omega
  have hlt14_g0 : w5.heap.size < w14.heap.size := by omega
  have ho_x1 := ho_x1.below hk14
  have ho_w0 := ho_w0.below hk14
  have ho_x2 := ho_x2.below hk14
  have ho_g0 := ho_g0.below hk14
  have ho_x3 := ho_x3.below hk14
  have ho_x4 := ho_x4.below hk14
  have H := bTrans H hk14
  have hlo_h0 : Hid (∀ q ∈ fpX v_h0, w13.heap.size ≤ q) := fun q hq => by have h1 := hf_h0.lo q hq; (try simp at h1); omega
  have hhi_h0 : Hid (∀ q ∈ fpX v_h0, q < w14.heap.size) := hf_h0.hi
  go_wp2_with fail
  refine Calls.mono (eqPlaceIndex_k v_h0 v_w0 ((buildIdx d0).1) _ (fewX_build d0) ?_ ?_) ?_
  · exact (ho_h0.rd.below (by repeat (first | with_reducible exact Below.refl _ _ | with_reducible refine bAlloc ?_ _)))
  · exact (ho_w0.rd.below (by repeat (first | with_reducible exact Below.refl _ _ | with_reducible refine bAlloc ?_ _)))
  rintro e w15 ⟨rfl, hb15⟩
  have hk15 : Below w14.heap.size w14 w15 := bTrans (by repeat (first | with_reducible exact Below.refl _ _ | with_reducible refine bAlloc ?_ _)) hb15
  have hs15 := hk15.size
  have hz15 := hb15.size
  (try simp at hz15)
  have kb15_w0 := bBox hk15 (w3.heap.size) (by omega)
  have kb15_g0 := bBox hk15 (w5.heap.size) (by omega)
  have kb15_h0 := bBox hb15 (w14.heap.size) (by first | omega | (simp; done) | (simp; omega))
  have hlt15_w0 : w3.heap.size < w15.heap.size := by omega
  have hlt15_g0 : w5.heap.size < w15.heap.size := by omega
  have hlt15_h0 : w14.heap.size < w15.heap.size := by omega
  have ho_x1 := ho_x1.below hk15
  have ho_w0 := ho_w0.below hk15
  have ho_x2 := ho_x2.below hk15
  have ho_g0 := ho_g0.below hk15
  have ho_x3 := ho_x3.below hk15
  have ho_x4 := ho_x4.below hk15
  have ho_h0 := ho_h0.below hk15
  have H := bTrans H hk15
  go_wp2_with fail
  refine Calls.mono (heldPlaceIndex_k v_g0 ((buildIdx d0).1) _ _ (by omega) (by omega) (fewX_build d0) ?_) ?_
  · exact (ho_g0.rd.below (by repeat (first | with_reducible exact Below.refl _ _ | with_reducible refine bAlloc ?_ _)))
  rintro e w16 ⟨rfl, hb16⟩
  have hk16 : Below w15.heap.size w15 w16 := bTrans (by repeat (first | with_reducible exact Below.refl _ _ | with_reducible refine bAlloc ?_ _)) hb16
  have hs16 := hk16.size
  have hz16 := hb16.size
  (try simp at hz16)
  have kb16_w0 := bBox hk16 (w3.heap.size) (by omega)
  have kb16_g0 := bBox hk16 (w5.heap.size) (by omega)
  have kb16_h0 := bBox hk16 (w14.heap.size) (by omega)
  have hlt16_w0 : w3.heap.size < w16.heap.size := by omega
  have hlt16_g0 : w5.heap.size < w16.heap.size := by omega
  have hlt16_h0 : w14.heap.size < w16.heap.size := by omega
  have ho_x1 := ho_x1.below hk16
  have ho_w0 := ho_w0.below hk16
  have ho_x2 := ho_x2.below hk16
  have ho_g0 := ho_g0.below hk16
  have ho_x3 := ho_x3.below hk16
  have ho_x4 := ho_x4.below hk16
  have ho_h0 := ho_h0.below hk16
  have H := bTrans H hk16
  go_wp2_with fail
  go_ret
  exact ⟨rfl, H⟩
end Go.Proofs.Ytadmeijogbljhaa
