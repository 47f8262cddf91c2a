/- The walk of the law FnExactMergeBundle. -/
import Derived.Test.YtcfogdobcknffaaMerge
namespace Go.Proofs.Ytcfogdobcknffaa
open Go.RowKit
set_option linter.unusedVariables false
set_option linter.unusedSimpArgs false
set_option maxHeartbeats 1600000
set_option maxRecDepth 100000
theorem w_FnExactMergeBundle (W : World) (v0 : Sv) (d0 : List Factor) (hr0 : RdF W v0 d0) (hok0 : okF d0) (hl0 : lenF v0) (v1 : Sv) (d1 : Bundle) (hr1 : RdB W v1 d1) (hok1 : okB d1) (hl1 : lenB v1) :
    Calls Try.prog 12 #[.slice v0.A v0.n v0.c, vBundle (d1).robot v1.A v1.n v1.c] W fun e w' => e = rBool true ∧ Below W.heap.size W w' := by
  go_enter Try.func12, Try.ntmps12
  go_wp2_with fail
  refine Calls.mono (szFactorS_k v0 d0 _ _ (by omega) (by omega) hl0 hok0 ?_) ?_
  · exact hr0.below (by repeat (first | with_reducible exact Below.refl _ _ | with_reducible refine bAlloc ?_ _))
  rintro e w1 ⟨⟨r0, rfl, hp⟩, hb1⟩
  have hk1 : Below W.heap.size W w1 := bTrans (by repeat (first | with_reducible exact Below.refl _ _ | with_reducible refine bAlloc ?_ _)) hb1
  have hs1 := hk1.size
  have hz1 := hb1.size
  (try simp at hz1)
  have kb1_a1 := bBox hb1 (W.heap.size) (by first | omega | (simp; done) | (simp; omega))
  have H := bTrans (Below.refl _ W) hk1
  rcases hp with rfl | ⟨hp0, hp1⟩
  · go_wp2_with fail
    go_ret
    exact ⟨rfl, H⟩
  have hrl0 : r0 ≤ 1048576 := by have := hp1.out; omega
  have hr00 : 0 ≤ r0 := hp0
  have hm0 : bulkF d0 ≤ 1048576 := by have := hp1.out; omega
  have HM0 := Lib.hid hm0
  have hfw0 := fewF_of hm0
  clear hp0 hp1
  go_wp2_with fail
  refine Calls.mono (szBundle_k v1 d1 _ _ hr00 hrl0 hl1 hok1 ?_) ?_
  · exact hr1.below (by repeat (first | with_reducible exact H | with_reducible refine bAlloc ?_ _))
  rintro e w2 ⟨⟨r1, rfl, hp⟩, hb2⟩
  have hk2 : Below w1.heap.size w1 w2 := bTrans (by repeat (first | with_reducible exact Below.refl _ _ | with_reducible refine bAlloc ?_ _)) hb2
  have hs2 := hk2.size
  have hz2 := hb2.size
  (try simp at hz2)
  have kb2_a1 := bBox hk2 (W.heap.size) (by omega)
  have H := bTrans H hk2
  rcases hp with rfl | ⟨hp0, hp1⟩
  · go_wp2_with fail
    go_ret
    exact ⟨rfl, H⟩
  have hrl1 : r1 ≤ 1048576 := by have := hp1.out; omega
  have hr01 : 0 ≤ r1 := hp0
  have hm1 : bulkB d1 ≤ 1048576 := by have := hp1.out; omega
  have HM1 := Lib.hid hm1
  have hfw1 := fewB_of hm1
  clear hp0 hp1
  go_wp2_with fail
  refine region_at fun R2 hW2 => ?_
  have hr2r : Below w2.heap.size w2 R2 := by rw [hW2.out]; exact (by repeat (first | with_reducible exact Below.refl _ _ | with_reducible refine bAlloc ?_ _))
  have Hr2 := bTrans H hr2r
  have kr2_a1 := bBox hr2r (W.heap.size) (by omega)
  have g2_0 : R2.cell? ⟨W.heap.size, 0, none⟩ = some (.int .i64 (d1).robot) := by rw [kr2_a1, kb2_a1, kb1_a1]; simp
  have g2_1 : R2.cell? ⟨W.heap.size, 1, none⟩ = some (.slice v1.A v1.n v1.c) := by rw [kr2_a1, kb2_a1, kb1_a1]; simp
  have hzr2 := hr2r.size
  go_region_held3 (fun w' => w'.cell? ⟨W.heap.size, 0, none⟩ = some (.int .i64 (d1).robot) ∧ w'.cell? ⟨W.heap.size, 1, none⟩ = some (.slice v1.A v1.n v1.c)) (first | go_keep | ((repeat' apply And.intro) <;> (first | exact bCell hb5 (bCell hb4 (bCell hb3 (by assumption))) | exact bCell hb4 (bCell hb3 (by assumption)) | exact bCell hb3 (by assumption) | exact bCell hb3 (by assumption) | exact bCell hb4 (by assumption) | exact bCell hb5 (by assumption)))) ((first | (go_at_call 53; refine (toFactorS_k v0 d0 _ hfw0 (hr0.below (bDrew Hr2))).mono ?_; rintro e w3 ⟨v_x1, rfl, ho_x1, hf_x1, hb3⟩) | (go_at_call 28; refine (toBundle_k v1 d1 _ hfw1 (hr1.below (bTrans (bDrew Hr2) hb3))).mono ?_; rintro e w4 ⟨v_x2, rfl, ho_x2, hf_x2, hb4⟩) | (go_at_call 71; refine (spec_MergeBundle_k v_x1 d0 v_x2 d1 _ HM0.out hok0 (ho_x1.rd.below hb4) HM1.out hok1 ho_x2.rd).mono ?_; rintro e w5 ⟨v_w0, rfl, ho_w0, hf_w0, hb5⟩)))
  have hk3 : Below w2.heap.size w2 w3 := bTrans (bDrew hr2r) hb3
  have hs3 := hk3.size
  have hz3 := hb3.size
  (try simp at hz3)
  have hk4 : Below w3.heap.size w3 w4 := hb4
  have hs4 := hk4.size
  have hk5 : Below w4.heap.size w4 w5 := hb5
  have hs5 := hk5.size
  have kb5_a1 : ∀ o, w5.cell? ⟨W.heap.size, o, none⟩ = w2.cell? ⟨W.heap.size, o, none⟩ := fun o => (bBox hk5 (W.heap.size) (by omega) o).trans ((bBox hk4 (W.heap.size) (by omega) o).trans (bBox hk3 (W.heap.size) (by omega) o))
  have hlo_x1 : Hid (∀ q ∈ fpF v_x1, w2.heap.size ≤ q) := fun q hq => by have h1 := hf_x1.lo q hq; (try simp at h1); omega
  have hhi_x1 : Hid (∀ q ∈ fpF v_x1, q < w3.heap.size) := hf_x1.hi
  have ho_x1 := ((ho_x1.below hk4).below hk5)
  have hlo_x2 : Hid (∀ q ∈ fpB v_x2, w3.heap.size ≤ q) := fun q hq => by have h1 := hf_x2.lo q hq; (try simp at h1); omega
  have hhi_x2 : Hid (∀ q ∈ fpB v_x2, q < w4.heap.size) := hf_x2.hi
  have ho_x2 := (ho_x2.below hk5)
  have hlo_w0 : Hid (∀ q ∈ fpF v_w0, w4.heap.size ≤ q) := fun q hq => by have h1 := hf_w0.lo q hq; (try simp at h1); omega
  have hhi_w0 : Hid (∀ q ∈ fpF v_w0, q < w5.heap.size) := hf_w0.hi
  have H := (bTrans (bTrans (bTrans H hk3) hk4) hk5)
  go_wp2_with fail
  refine Calls.mono (toFactorS_k v0 d0 _ hfw0 ?_) ?_
  · exact hr0.below (by repeat (first | with_reducible exact H | with_reducible refine bAlloc ?_ _))
  rintro e w6 ⟨v_x3, rfl, ho_x3, hf_x3, hb6⟩
  have hk6 : Below w5.heap.size w5 w6 := bTrans (by repeat (first | with_reducible exact Below.refl _ _ | with_reducible refine bAlloc ?_ _)) hb6
  have hs6 := hk6.size
  have hz6 := hb6.size
  (try simp at hz6)
  have kb6_a1 := bBox hk6 (W.heap.size) (by omega)
  have ho_x1 := ho_x1.below hk6
  have ho_x2 := ho_x2.below hk6
  have ho_w0 := ho_w0.below hk6
  have H := bTrans H hk6
  have hlo_x3 : Hid (∀ q ∈ fpF v_x3, w5.heap.size ≤ q) := fun q hq => by have h1 := hf_x3.lo q hq; (try simp at h1); omega
  have hhi_x3 : Hid (∀ q ∈ fpF v_x3, q < w6.heap.size) := hf_x3.hi
  go_wp2_with fail
  refine Calls.mono (toBundle_k v1 d1 _ hfw1 ?_) ?_
  · exact hr1.below (by repeat (first | with_reducible exact H | with_reducible refine bAlloc ?_ _))
  rintro e w7 ⟨v_x4, rfl, ho_x4, hf_x4, hb7⟩
  have hk7 : Below w6.heap.size w6 w7 := bTrans (by repeat (first | with_reducible exact Below.refl _ _ | with_reducible refine bAlloc ?_ _)) hb7
  have hs7 := hk7.size
  have hz7 := hb7.size
  (try simp at hz7)
  have kb7_a1 := bBox hk7 (W.heap.size) (by omega)
  have ho_x1 := ho_x1.below hk7
  have ho_x2 := ho_x2.below hk7
  have ho_w0 := ho_w0.below hk7
  have ho_x3 := ho_x3.below hk7
  have H := bTrans H hk7
  have hlo_x4 : Hid (∀ q ∈ fpB v_x4, w6.heap.size ≤ q) := fun q hq => by have h1 := hf_x4.lo q hq; (try simp at h1); omega
  have hhi_x4 : Hid (∀ q ∈ fpB v_x4, q < w7.heap.size) := hf_x4.hi
  go_wp2_with fail
  refine Calls.mono (impl_MergeBundle_k v_x3 d0 v_x4 d1 _ HM0.out hok0 ?_ HM1.out hok1 ?_) ?_
  · exact (ho_x3.rd.below (by repeat (first | with_reducible exact Below.refl _ _ | with_reducible refine bAlloc ?_ _)))
  · exact (ho_x4.rd.below (by repeat (first | with_reducible exact Below.refl _ _ | with_reducible refine bAlloc ?_ _)))
  rintro e w8 ⟨v_g0, rfl, ho_g0, hf_g0, hb8⟩
  have hk8 : Below w7.heap.size w7 w8 := bTrans (by repeat (first | with_reducible exact Below.refl _ _ | with_reducible refine bAlloc ?_ _)) hb8
  have hs8 := hk8.size
  have hz8 := hb8.size
  (try simp at hz8)
  have kb8_a1 := bBox hk8 (W.heap.size) (by omega)
  have kb8_x1v := bBox hb8 (w7.heap.size) (by first | omega | (simp; done) | (simp; omega))
  have ho_x1 := ho_x1.below hk8
  have ho_x2 := ho_x2.below hk8
  have ho_w0 := ho_w0.below hk8
  have ho_x3 := ho_x3.below hk8
  have ho_x4 := ho_x4.below hk8
  have H := bTrans H hk8
  have hlo_g0 : Hid (∀ q ∈ fpF v_g0, w7.heap.size + 1 ≤ q) := fun q hq => by have h1 := hf_g0.lo q hq; (try simp at h1); omega
  have hhi_g0 : Hid (∀ q ∈ fpF v_g0, q < w8.heap.size) := hf_g0.hi
  go_wp2_with fail
  refine Calls.mono (eqFactorS_k v_g0 v_w0 ((mergeB d0 d1.robot d1.factors).1) _ (fewF_merge hfw0) ?_ ?_) ?_
  · exact (ho_g0.rd.below (by repeat (first | with_reducible exact Below.refl _ _ | with_reducible refine bAlloc ?_ _)))
  · exact (ho_w0.rd.below (by repeat (first | with_reducible exact Below.refl _ _ | with_reducible refine bAlloc ?_ _)))
  rintro e w9 ⟨rfl, hb9⟩
  have hk9 : Below w8.heap.size w8 w9 := bTrans (by repeat (first | with_reducible exact Below.refl _ _ | with_reducible refine bAlloc ?_ _)) hb9
  have hs9 := hk9.size
  have hz9 := hb9.size
  (try simp at hz9)
  have kb9_a1 := bBox hk9 (W.heap.size) (by omega)
  have kb9_x1v := bBox hk9 (w7.heap.size) (by omega)
  have ho_x1 := ho_x1.below hk9
  have ho_x2 := ho_x2.below hk9
  have ho_w0 := ho_w0.below hk9
  have ho_x3 := ho_x3.below hk9
  have ho_x4 := ho_x4.below hk9
  have ho_g0 := ho_g0.below hk9
  have H := bTrans H hk9
  go_wp2_with fail
  refine Calls.mono (toFactorS_k v0 d0 _ hfw0 ?_) ?_
  · exact hr0.below (by repeat (first | with_reducible exact H | with_reducible refine bAlloc ?_ _))
  rintro e w10 ⟨v_x5, rfl, ho_x5, hf_x5, hb10⟩
  have hk10 : Below w9.heap.size w9 w10 := bTrans (by repeat (first | with_reducible exact Below.refl _ _ | with_reducible refine bAlloc ?_ _)) hb10
  have hs10 := hk10.size
  have hz10 := hb10.size
  (try simp at hz10)
  have kb10_a1 := bBox hk10 (W.heap.size) (by omega)
  have kb10_x1v := bBox hk10 (w7.heap.size) (by omega)
  have ho_x1 := ho_x1.below hk10
  have ho_x2 := ho_x2.below hk10
  have ho_w0 := ho_w0.below hk10
  have ho_x3 := ho_x3.below hk10
  have ho_x4 := ho_x4.below hk10
  have ho_g0 := ho_g0.below hk10
  have H := bTrans H hk10
  have hlo_x5 : Hid (∀ q ∈ fpF v_x5, w9.heap.size ≤ q) := fun q hq => by have h1 := hf_x5.lo q hq; (try simp at h1); omega
  have hhi_x5 : Hid (∀ q ∈ fpF v_x5, q < w10.heap.size) := hf_x5.hi
  go_wp2_with fail
  refine Calls.mono (eqFactorS_k v_x3 v_x5 d0 _ hfw0 ?_ ?_) ?_
  · exact (ho_x3.rd.below (by repeat (first | with_reducible exact Below.refl _ _ | with_reducible refine bAlloc ?_ _)))
  · exact (ho_x5.rd.below (by repeat (first | with_reducible exact Below.refl _ _ | with_reducible refine bAlloc ?_ _)))
  rintro e w11 ⟨rfl, hb11⟩
  have hk11 : Below w10.heap.size w10 w11 := bTrans (by repeat (first | with_reducible exact Below.refl _ _ | with_reducible refine bAlloc ?_ _)) hb11
  have hs11 := hk11.size
  have hz11 := hb11.size
  (try simp at hz11)
  have kb11_a1 := bBox hk11 (W.heap.size) (by omega)
  have kb11_x1v := bBox hk11 (w7.heap.size) (by omega)
  have ho_x1 := ho_x1.below hk11
  have ho_x2 := ho_x2.below hk11
  have ho_w0 := ho_w0.below hk11
  have ho_x3 := ho_x3.below hk11
  have ho_x4 := ho_x4.below hk11
  have ho_g0 := ho_g0.below hk11
  have ho_x5 := ho_x5.below hk11
  have H := bTrans H hk11
  go_wp2_with fail
  refine region_at fun R11 hW11 => ?_
  have hr11r : Below w11.heap.size w11 R11 := by rw [hW11.out]; exact (by repeat (first | with_reducible exact Below.refl _ _ | with_reducible refine bAlloc ?_ _))
  have Hr11 := bTrans H hr11r
  have kr11_x1v := bBox hr11r (w7.heap.size) (by omega)
  have g11_0 : R11.cell? ⟨w7.heap.size, 0, none⟩ = some (.int .i64 (d1).robot) := by rw [kr11_x1v, kb11_x1v, kb10_x1v, kb9_x1v, kb8_x1v]; simp
  have g11_1 : R11.cell? ⟨w7.heap.size, 1, none⟩ = some (.slice v_x4.A v_x4.n v_x4.c) := by rw [kr11_x1v, kb11_x1v, kb10_x1v, kb9_x1v, kb8_x1v]; simp
  have kr11_a1 := bBox hr11r (W.heap.size) (by omega)
  have g11_2 : R11.cell? ⟨W.heap.size, 0, none⟩ = some (.int .i64 (d1).robot) := by rw [kr11_a1, kb11_a1, kb10_a1, kb9_a1, kb8_a1, kb7_a1, kb6_a1, kb5_a1, kb2_a1, kb1_a1]; simp
  have g11_3 : R11.cell? ⟨W.heap.size, 1, none⟩ = some (.slice v1.A v1.n v1.c) := by rw [kr11_a1, kb11_a1, kb10_a1, kb9_a1, kb8_a1, kb7_a1, kb6_a1, kb5_a1, kb2_a1, kb1_a1]; simp
  have hzr11 := hr11r.size
  go_region_held3 (fun w' => w'.cell? ⟨w7.heap.size, 0, none⟩ = some (.int .i64 (d1).robot) ∧ w'.cell? ⟨w7.heap.size, 1, none⟩ = some (.slice v_x4.A v_x4.n v_x4.c) ∧ w'.cell? ⟨W.heap.size, 0, none⟩ = some (.int .i64 (d1).robot) ∧ w'.cell? ⟨W.heap.size, 1, none⟩ = some (.slice v1.A v1.n v1.c)) (first | go_keep | ((repeat' apply And.intro) <;> (first | exact bCell hb13 (bCell hb12 (by assumption)) | exact bCell hb12 (by assumption) | exact bCell hb12 (by assumption) | exact bCell hb13 (by assumption)))) ((first | (go_at_call 28; refine (toBundle_k v1 d1 _ hfw1 (hr1.below (bDrew Hr11))).mono ?_; rintro e w12 ⟨v_x6, rfl, ho_x6, hf_x6, hb12⟩) | (go_at_call 30; refine (eqBundle_k v_x4 v_x6 d1 _ hfw1 (ho_x4.rd.below (bTrans (bDrew hr11r) hb12)) ho_x6.rd).mono ?_; rintro e w13 ⟨rfl, hb13⟩)))
  have hk12 : Below w11.heap.size w11 w12 := bTrans (bDrew hr11r) hb12
  have hs12 := hk12.size
  have hz12 := hb12.size
  (try simp at hz12)
  have hk13 : Below w12.heap.size w12 w13 := hb13
  have hs13 := hk13.size
  have kb13_a1 : ∀ o, w13.cell? ⟨W.heap.size, o, none⟩ = w11.cell? ⟨W.heap.size, o, none⟩ := fun o => (bBox hk13 (W.heap.size) (by omega) o).trans (bBox hk12 (W.heap.size) (by omega) o)
  have kb13_x1v : ∀ o, w13.cell? ⟨w7.heap.size, o, none⟩ = w11.cell? ⟨w7.heap.size, o, none⟩ := fun o => (bBox hk13 (w7.heap.size) (by omega) o).trans (bBox hk12 (w7.heap.size) (by omega) o)
  have ho_x1 := ((ho_x1.below hk12).below hk13)
  have ho_x2 := ((ho_x2.below hk12).below hk13)
  have ho_w0 := ((ho_w0.below hk12).below hk13)
  have ho_x3 := ((ho_x3.below hk12).below hk13)
  have ho_x4 := ((ho_x4.below hk12).below hk13)
  have ho_g0 := ((ho_g0.below hk12).below hk13)
  have ho_x5 := ((ho_x5.below hk12).below hk13)
  have hlo_x6 : Hid (∀ q ∈ fpB v_x6, w11.heap.size ≤ q) := fun q hq => by have h1 := hf_x6.lo q hq; (try simp at h1); omega
  have hhi_x6 : Hid (∀ q ∈ fpB v_x6, q < w12.heap.size) := hf_x6.hi
  have ho_x6 := (ho_x6.below hk13)
  have H := (bTrans (bTrans H hk12) hk13)
  go_wp2_with fail
  refine Calls.mono (markFactorS_k v_x3 d0 _ _ (by omega) (by omega) hfw0 ?_ hf_x3.nodup) ?_
  · exact (ho_x3.below (by repeat (first | with_reducible exact Below.refl _ _ | with_reducible refine bAlloc ?_ _)))
  rintro e w14 ⟨rfl, ho_x3n, hu14⟩
  have hv14 : Upd (fpF v_x3) w13 w14 := (Upd.of_below (by repeat (first | with_reducible exact Below.refl _ _ | with_reducible refine bAlloc ?_ _))).trans hu14
  have hs14 := hv14.size
  have hz14 := hu14.size
  (try simp at hz14)
  have kb14_a1 := uBox hv14 (W.heap.size) (by omega) (fun hm => by have h1 := hlo_x3.out _ hm; have h2 := hhi_x3.out _ hm; omega)
  have kb14_x1v := uBox hv14 (w7.heap.size) (by omega) (fun hm => by have h1 := hlo_x3.out _ hm; have h2 := hhi_x3.out _ hm; omega)
  have ho_x1 := ho_x1.upd hv14 (fun q hq hm => by have h1 := hlo_x1.out q hq; have h2 := hhi_x1.out q hq; have h3 := hlo_x3.out q hm; have h4 := hhi_x3.out q hm; omega)
  have ho_x2 := ho_x2.upd hv14 (fun q hq hm => by have h1 := hlo_x2.out q hq; have h2 := hhi_x2.out q hq; have h3 := hlo_x3.out q hm; have h4 := hhi_x3.out q hm; omega)
  have ho_w0 := ho_w0.upd hv14 (fun q hq hm => by have h1 := hlo_w0.out q hq; have h2 := hhi_w0.out q hq; have h3 := hlo_x3.out q hm; have h4 := hhi_x3.out q hm; omega)
  have ho_x4 := ho_x4.upd hv14 (fun q hq hm => by have h1 := hlo_x4.out q hq; have h2 := hhi_x4.out q hq; have h3 := hlo_x3.out q hm; have h4 := hhi_x3.out q hm; omega)
  have ho_g0 := ho_g0.upd hv14 (fun q hq hm => by have h1 := hlo_g0.out q hq; have h2 := hhi_g0.out q hq; have h3 := hlo_x3.out q hm; have h4 := hhi_x3.out q hm; omega)
  have ho_x5 := ho_x5.upd hv14 (fun q hq hm => by have h1 := hlo_x5.out q hq; have h2 := hhi_x5.out q hq; have h3 := hlo_x3.out q hm; have h4 := hhi_x3.out q hm; omega)
  have ho_x6 := ho_x6.upd hv14 (fun q hq hm => by have h1 := hlo_x6.out q hq; have h2 := hhi_x6.out q hq; have h3 := hlo_x3.out q hm; have h4 := hhi_x3.out q hm; omega)
  have H := bUpd H hv14 (fun q hq => by have h1 := hlo_x3.out q hq; omega)
  have ho_x3 := ho_x3n
  clear ho_x3n
  have hc14 := cntF_few (show fewF d0 from hfw0)
  go_wp2_with fail
  refine Calls.mono (markBundle_k v_x4 d1 _ _ (by omega) (by omega) hfw1 ?_ hf_x4.nodup) ?_
  · exact (ho_x4.below (by repeat (first | with_reducible exact Below.refl _ _ | with_reducible refine bAlloc ?_ _)))
  rintro e w15 ⟨rfl, ho_x4n, hu15⟩
  have hv15 : Upd (fpB v_x4) w14 w15 := (Upd.of_below (by repeat (first | with_reducible exact Below.refl _ _ | with_reducible refine bAlloc ?_ _))).trans hu15
  have hs15 := hv15.size
  have hz15 := hu15.size
  (try simp at hz15)
  have kb15_a1 := uBox hv15 (W.heap.size) (by omega) (fun hm => by have h1 := hlo_x4.out _ hm; have h2 := hhi_x4.out _ hm; omega)
  have kb15_x1v := uBox hv15 (w7.heap.size) (by omega) (fun hm => by have h1 := hlo_x4.out _ hm; have h2 := hhi_x4.out _ hm; omega)
  have ho_x1 := ho_x1.upd hv15 (fun q hq hm => by have h1 := hlo_x1.out q hq; have h2 := hhi_x1.out q hq; have h3 := hlo_x4.out q hm; have h4 := hhi_x4.out q hm; omega)
  have ho_x2 := ho_x2.upd hv15 (fun q hq hm => by have h1 := hlo_x2.out q hq; have h2 := hhi_x2.out q hq; have h3 := hlo_x4.out q hm; have h4 := hhi_x4.out q hm; omega)
  have ho_w0 := ho_w0.upd hv15 (fun q hq hm => by have h1 := hlo_w0.out q hq; have h2 := hhi_w0.out q hq; have h3 := hlo_x4.out q hm; have h4 := hhi_x4.out q hm; omega)
  have ho_x3 := ho_x3.upd hv15 (fun q hq hm => by have h1 := hlo_x3.out q hq; have h2 := hhi_x3.out q hq; have h3 := hlo_x4.out q hm; have h4 := hhi_x4.out q hm; omega)
  have ho_g0 := ho_g0.upd hv15 (fun q hq hm => by have h1 := hlo_g0.out q hq; have h2 := hhi_g0.out q hq; have h3 := hlo_x4.out q hm; have h4 := hhi_x4.out q hm; omega)
  have ho_x5 := ho_x5.upd hv15 (fun q hq hm => by have h1 := hlo_x5.out q hq; have h2 := hhi_x5.out q hq; have h3 := hlo_x4.out q hm; have h4 := hhi_x4.out q hm; omega)
  have ho_x6 := ho_x6.upd hv15 (fun q hq hm => by have h1 := hlo_x6.out q hq; have h2 := hhi_x6.out q hq; have h3 := hlo_x4.out q hm; have h4 := hhi_x4.out q hm; omega)
  have H := bUpd H hv15 (fun q hq => by have h1 := hlo_x4.out q hq; omega)
  have ho_x4 := ho_x4n
  clear ho_x4n
  have hc15 := cntB_few (show fewB d1 from hfw1)
  go_wp2_with fail
  refine Calls.mono (eqFactorS_k v_g0 v_w0 ((mergeB d0 d1.robot d1.factors).1) _ (fewF_merge hfw0) ?_ ?_) ?_
  · exact (ho_g0.rd.below (by repeat (first | with_reducible exact Below.refl _ _ | with_reducible refine bAlloc ?_ _)))
  · exact (ho_w0.rd.below (by repeat (first | with_reducible exact Below.refl _ _ | with_reducible refine bAlloc ?_ _)))
  rintro e w16 ⟨rfl, hb16⟩
  have hk16 : Below w15.heap.size w15 w16 := bTrans (by repeat (first | with_reducible exact Below.refl _ _ | with_reducible refine bAlloc ?_ _)) hb16
  have hs16 := hk16.size
  have hz16 := hb16.size
  (try simp at hz16)
  have kb16_a1 := bBox hk16 (W.heap.size) (by omega)
  have kb16_x1v := bBox hk16 (w7.heap.size) (by omega)
  have ho_x1 := ho_x1.below hk16
  have ho_x2 := ho_x2.below hk16
  have ho_w0 := ho_w0.below hk16
  have ho_x3 := ho_x3.below hk16
  have ho_x4 := ho_x4.below hk16
  have ho_g0 := ho_g0.below hk16
  have ho_x5 := ho_x5.below hk16
  have ho_x6 := ho_x6.below hk16
  have H := bTrans H hk16
  go_wp2_with fail
  refine Calls.mono (markFactorS_k v_g0 ((mergeB d0 d1.robot d1.factors).1) _ _ (by omega) (by omega) (fewF_merge hfw0) ?_ hf_g0.nodup) ?_
  · exact (ho_g0.below (by repeat (first | with_reducible exact Below.refl _ _ | with_reducible refine bAlloc ?_ _)))
  rintro e w17 ⟨rfl, ho_g0n, hu17⟩
  have hv17 : Upd (fpF v_g0) w16 w17 := (Upd.of_below (by repeat (first | with_reducible exact Below.refl _ _ | with_reducible refine bAlloc ?_ _))).trans hu17
  have hs17 := hv17.size
  have hz17 := hu17.size
  (try simp at hz17)
  have kb17_a1 := uBox hv17 (W.heap.size) (by omega) (fun hm => by have h1 := hlo_g0.out _ hm; have h2 := hhi_g0.out _ hm; omega)
  have kb17_x1v := uBox hv17 (w7.heap.size) (by omega) (fun hm => by have h1 := hlo_g0.out _ hm; have h2 := hhi_g0.out _ hm; omega)
  have ho_x1 := ho_x1.upd hv17 (fun q hq hm => by have h1 := hlo_x1.out q hq; have h2 := hhi_x1.out q hq; have h3 := hlo_g0.out q hm; have h4 := hhi_g0.out q hm; omega)
  have ho_x2 := ho_x2.upd hv17 (fun q hq hm => by have h1 := hlo_x2.out q hq; have h2 := hhi_x2.out q hq; have h3 := hlo_g0.out q hm; have h4 := hhi_g0.out q hm; omega)
  have ho_w0 := ho_w0.upd hv17 (fun q hq hm => by have h1 := hlo_w0.out q hq; have h2 := hhi_w0.out q hq; have h3 := hlo_g0.out q hm; have h4 := hhi_g0.out q hm; omega)
  have ho_x3 := ho_x3.upd hv17 (fun q hq hm => by have h1 := hlo_x3.out q hq; have h2 := hhi_x3.out q hq; have h3 := hlo_g0.out q hm; have h4 := hhi_g0.out q hm; omega)
  have ho_x4 := ho_x4.upd hv17 (fun q hq hm => by have h1 := hlo_x4.out q hq; have h2 := hhi_x4.out q hq; have h3 := hlo_g0.out q hm; have h4 := hhi_g0.out q hm; omega)
  have ho_x5 := ho_x5.upd hv17 (fun q hq hm => by have h1 := hlo_x5.out q hq; have h2 := hhi_x5.out q hq; have h3 := hlo_g0.out q hm; have h4 := hhi_g0.out q hm; omega)
  have ho_x6 := ho_x6.upd hv17 (fun q hq hm => by have h1 := hlo_x6.out q hq; have h2 := hhi_x6.out q hq; have h3 := hlo_g0.out q hm; have h4 := hhi_g0.out q hm; omega)
  have H := bUpd H hv17 (fun q hq => by have h1 := hlo_g0.out q hq; omega)
  have ho_g0 := ho_g0n
  clear ho_g0n
  have hc17 := cntF_few (show fewF ((mergeB d0 d1.robot d1.factors).1) from (fewF_merge hfw0))
  go_wp2_with fail
  refine Calls.mono (heldFactorS_k v_g0 ((mergeB d0 d1.robot d1.factors).1) 1 _ (by omega) (by omega) (fewF_merge hfw0) ?_) ?_
  · exact (ho_g0.rd.below (by repeat (first | with_reducible exact Below.refl _ _ | with_reducible refine bAlloc ?_ _)))
  rintro e w18 ⟨rfl, hb18⟩
  have hk18 : Below w17.heap.size w17 w18 := bTrans (by repeat (first | with_reducible exact Below.refl _ _ | with_reducible refine bAlloc ?_ _)) hb18
  have hs18 := hk18.size
  have hz18 := hb18.size
  (try simp at hz18)
  have kb18_a1 := bBox hk18 (W.heap.size) (by omega)
  have kb18_x1v := bBox hk18 (w7.heap.size) (by omega)
  have ho_x1 := ho_x1.below hk18
  have ho_x2 := ho_x2.below hk18
  have ho_w0 := ho_w0.below hk18
  have ho_x3 := ho_x3.below hk18
  have ho_x4 := ho_x4.below hk18
  have ho_g0 := ho_g0.below hk18
  have ho_x5 := ho_x5.below hk18
  have ho_x6 := ho_x6.below hk18
  have H := bTrans H hk18
  go_wp2_with fail
  refine region_at fun R18 hW18 => ?_
  have hr18r : Below w18.heap.size w18 R18 := by rw [hW18.out]; exact (by repeat (first | with_reducible exact Below.refl _ _ | with_reducible refine bAlloc ?_ _))
  have Hr18 := bTrans H hr18r
  have kr18_a1 := bBox hr18r (W.heap.size) (by omega)
  have g18_0 : R18.cell? ⟨W.heap.size, 0, none⟩ = some (.int .i64 (d1).robot) := by rw [kr18_a1, kb18_a1, kb17_a1, kb16_a1, kb15_a1, kb14_a1, kb13_a1, kb11_a1, kb10_a1, kb9_a1, kb8_a1, kb7_a1, kb6_a1, kb5_a1, kb2_a1, kb1_a1]; simp
  have g18_1 : R18.cell? ⟨W.heap.size, 1, none⟩ = some (.slice v1.A v1.n v1.c) := by rw [kr18_a1, kb18_a1, kb17_a1, kb16_a1, kb15_a1, kb14_a1, kb13_a1, kb11_a1, kb10_a1, kb9_a1, kb8_a1, kb7_a1, kb6_a1, kb5_a1, kb2_a1, kb1_a1]; simp
  have hzr18 := hr18r.size
  go_region_held3 (fun w' => w'.cell? ⟨W.heap.size, 0, none⟩ = some (.int .i64 (d1).robot) ∧ w'.cell? ⟨W.heap.size, 1, none⟩ = some (.slice v1.A v1.n v1.c)) (first | go_keep | ((repeat' apply And.intro) <;> (first | exact bCell hb21 (bCell hb20 (bCell hb19 (by assumption))) | exact bCell hb20 (bCell hb19 (by assumption)) | exact bCell hb19 (by assumption) | exact bCell hb19 (by assumption) | exact bCell hb20 (by assumption) | exact bCell hb21 (by assumption)))) ((first | (go_at_call 53; refine (toFactorS_k v0 d0 _ hfw0 (hr0.below (bDrew Hr18))).mono ?_; rintro e w19 ⟨v_x7, rfl, ho_x7, hf_x7, hb19⟩) | (go_at_call 28; refine (toBundle_k v1 d1 _ hfw1 (hr1.below (bTrans (bDrew Hr18) hb19))).mono ?_; rintro e w20 ⟨v_x8, rfl, ho_x8, hf_x8, hb20⟩) | (go_at_call 42; refine (impl_MergeBundle_k v_x7 d0 v_x8 d1 _ HM0.out hok0 (ho_x7.rd.below hb20) HM1.out hok1 ho_x8.rd).mono ?_; rintro e w21 ⟨v_h0, rfl, ho_h0, hf_h0, hb21⟩)))
  have hk19 : Below w18.heap.size w18 w19 := bTrans (bDrew hr18r) hb19
  have hs19 := hk19.size
  have hz19 := hb19.size
  (try simp at hz19)
  have hk20 : Below w19.heap.size w19 w20 := hb20
  have hs20 := hk20.size
  have hk21 : Below w20.heap.size w20 w21 := hb21
  have hs21 := hk21.size
  have kb21_a1 : ∀ o, w21.cell? ⟨W.heap.size, o, none⟩ = w18.cell? ⟨W.heap.size, o, none⟩ := fun o => (bBox hk21 (W.heap.size) (by omega) o).trans ((bBox hk20 (W.heap.size) (by omega) o).trans (bBox hk19 (W.heap.size) (by omega) o))
  have kb21_x1v : ∀ o, w21.cell? ⟨w7.heap.size, o, none⟩ = w18.cell? ⟨w7.heap.size, o, none⟩ := fun o => (bBox hk21 (w7.heap.size) (by omega) o).trans ((bBox hk20 (w7.heap.size) (by omega) o).trans (bBox hk19 (w7.heap.size) (by omega) o))
  have ho_x1 := (((ho_x1.below hk19).below hk20).below hk21)
  have ho_x2 := (((ho_x2.below hk19).below hk20).below hk21)
  have ho_w0 := (((ho_w0.below hk19).below hk20).below hk21)
  have ho_x3 := (((ho_x3.below hk19).below hk20).below hk21)
  have ho_x4 := (((ho_x4.below hk19).below hk20).below hk21)
  have ho_g0 := (((ho_g0.below hk19).below hk20).below hk21)
  have ho_x5 := (((ho_x5.below hk19).below hk20).below hk21)
  have ho_x6 := (((ho_x6.below hk19).below hk20).below hk21)
  have hlo_x7 : Hid (∀ q ∈ fpF v_x7, w18.heap.size ≤ q) := fun q hq => by have h1 := hf_x7.lo q hq; (try simp at h1); omega
  have hhi_x7 : Hid (∀ q ∈ fpF v_x7, q < w19.heap.size) := hf_x7.hi
  have ho_x7 := ((ho_x7.below hk20).below hk21)
  have hlo_x8 : Hid (∀ q ∈ fpB v_x8, w19.heap.size ≤ q) := fun q hq => by have h1 := hf_x8.lo q hq; (try simp at h1); omega
  have hhi_x8 : Hid (∀ q ∈ fpB v_x8, q < w20.heap.size) := hf_x8.hi
  have ho_x8 := (ho_x8.below hk21)
  have hlo_h0 : Hid (∀ q ∈ fpF v_h0, w20.heap.size ≤ q) := fun q hq => by have h1 := hf_h0.lo q hq; (try simp at h1); omega
  have hhi_h0 : Hid (∀ q ∈ fpF v_h0, q < w21.heap.size) := hf_h0.hi
  have H := (bTrans (bTrans (bTrans H hk19) hk20) hk21)
  go_wp2_with fail
  refine Calls.mono (eqFactorS_k v_h0 v_w0 ((mergeB d0 d1.robot d1.factors).1) _ (fewF_merge hfw0) ?_ ?_) ?_
  · exact (ho_h0.rd.below (by repeat (first | with_reducible exact Below.refl _ _ | with_reducible refine bAlloc ?_ _)))
  · exact (ho_w0.rd.below (by repeat (first | with_reducible exact Below.refl _ _ | with_reducible refine bAlloc ?_ _)))
  rintro e w22 ⟨rfl, hb22⟩
  have hk22 : Below w21.heap.size w21 w22 := bTrans (by repeat (first | with_reducible exact Below.refl _ _ | with_reducible refine bAlloc ?_ _)) hb22
  have hs22 := hk22.size
  have hz22 := hb22.size
  (try simp at hz22)
  have kb22_a1 := bBox hk22 (W.heap.size) (by omega)
  have kb22_x1v := bBox hk22 (w7.heap.size) (by omega)
  have ho_x1 := ho_x1.below hk22
  have ho_x2 := ho_x2.below hk22
  have ho_w0 := ho_w0.below hk22
  have ho_x3 := ho_x3.below hk22
  have ho_x4 := ho_x4.below hk22
  have ho_g0 := ho_g0.below hk22
  have ho_x5 := ho_x5.below hk22
  have ho_x6 := ho_x6.below hk22
  have ho_x7 := ho_x7.below hk22
  have ho_x8 := ho_x8.below hk22
  have ho_h0 := ho_h0.below hk22
  have H := bTrans H hk22
  go_wp2_with fail
  refine Calls.mono (heldFactorS_k v_g0 ((mergeB d0 d1.robot d1.factors).1) 1 _ (by omega) (by omega) (fewF_merge hfw0) ?_) ?_
  · exact (ho_g0.rd.below (by repeat (first | with_reducible exact Below.refl _ _ | with_reducible refine bAlloc ?_ _)))
  rintro e w23 ⟨rfl, hb23⟩
  have hk23 : Below w22.heap.size w22 w23 := bTrans (by repeat (first | with_reducible exact Below.refl _ _ | with_reducible refine bAlloc ?_ _)) hb23
  have hs23 := hk23.size
  have hz23 := hb23.size
  (try simp at hz23)
  have kb23_a1 := bBox hk23 (W.heap.size) (by omega)
  have kb23_x1v := bBox hk23 (w7.heap.size) (by omega)
  have ho_x1 := ho_x1.below hk23
  have ho_x2 := ho_x2.below hk23
  have ho_w0 := ho_w0.below hk23
  have ho_x3 := ho_x3.below hk23
  have ho_x4 := ho_x4.below hk23
  have ho_g0 := ho_g0.below hk23
  have ho_x5 := ho_x5.below hk23
  have ho_x6 := ho_x6.below hk23
  have ho_x7 := ho_x7.below hk23
  have ho_x8 := ho_x8.below hk23
  have ho_h0 := ho_h0.below hk23
  have H := bTrans H hk23
  go_wp2_with fail
  go_ret
  exact ⟨rfl, H⟩
end Go.Proofs.Ytcfogdobcknffaa
