/- The walk of the law FnExactTakeInbox. -/
import Derived.Test.YtadmeijogbljhaaTake
namespace Go.Proofs.Ytadmeijogbljhaa
open Go.RowKit
set_option linter.unusedVariables false
set_option linter.unusedSimpArgs false
set_option maxHeartbeats 1600000
set_option maxRecDepth 100000
theorem w_FnExactTakeInbox (W : World) (v0 : CV) (d0 : Chan) (hr0 : RdC W v0 d0) (hok0 : okC d0) (hl0 : lenC v0) :
    Calls Try.prog 3 #[vChan v0 (d0).base (d0).expected] W fun e w' => e = rBool true ∧ Below W.heap.size W w' := by
  go_enter Try.func3, Try.ntmps3
  go_wp2_with fail
  refine Calls.mono (szChannel_k v0 d0 _ _ (by omega) (by omega) hl0 hok0 ?_) ?_
  · exact hr0.below (by repeat (first | with_reducible exact Below.refl _ _ | with_reducible refine bAlloc ?_ _))
  rintro e w1 ⟨⟨r0, rfl, hp⟩, hb1⟩
  have hk1 : Below W.heap.size W w1 := bTrans (by repeat (first | with_reducible exact Below.refl _ _ | with_reducible refine bAlloc ?_ _)) hb1
  have hs1 := hk1.size
  have hz1 := hb1.size
  (try simp at hz1)
  have kb1_a0 := bBox hb1 (W.heap.size) (by first | omega | (simp; done) | (simp; omega))
  have hlt1_a0 : W.heap.size < w1.heap.size := by omega
  have H := bTrans (Below.refl _ W) hk1
  rcases hp with rfl | ⟨hp0, hp1⟩
  · go_wp2_with fail
    go_ret
    exact ⟨rfl, H⟩
  have hrl0 : r0 ≤ 1048576 := by have := hp1.out; omega
  have hr00 : 0 ≤ r0 := hp0
  have hm0 : bulkC d0 ≤ 1048576 := by have := hp1.out; omega
  have HM0 := Lib.hid hm0
  have hfw0 := fewC_of hm0
  clear hp0 hp1
  go_wp2_with fail
  refine Calls.mono (toChannel_k v0 d0 _ hfw0 ?_) ?_
  · exact hr0.below (by repeat (first | with_reducible exact H | with_reducible refine bAlloc ?_ _))
  rintro e w2 ⟨v_x1, rfl, ho_x1, hf_x1, hb2⟩
  have hk2 : Below w1.heap.size w1 w2 := bTrans (by repeat (first | with_reducible exact Below.refl _ _ | with_reducible refine bAlloc ?_ _)) hb2
  have hs2 := hk2.size
  have hz2 := hb2.size
  (try simp at hz2)
  have kb2_a0 := bBox hk2 (W.heap.size) (by omega)
  have hlt2_a0 : W.heap.size < w2.heap.size := by omega
  have H := bTrans H hk2
  have hlo_x1 : Hid (∀ q ∈ fpC v_x1, w1.heap.size ≤ q) := fun q hq => by have h1 := hf_x1.lo q hq; (try simp at h1); omega
  have hhi_x1 : Hid (∀ q ∈ fpC v_x1, q < w2.heap.size) := hf_x1.hi
  go_wp2_with fail
  refine Calls.mono (spec_TakeInbox_k v_x1 d0 _ HM0.out hok0 ?_) ?_
  · exact (ho_x1.rd.below (by repeat (first | with_reducible exact Below.refl _ _ | with_reducible refine bAlloc ?_ _)))
  rintro e w3 ⟨v_w0, v_w1, rfl, ho_w0, hf_w0, ho_w1, hf_w1, hap_w, hb3⟩
  have hk3 : Below w2.heap.size w2 w3 := bTrans (by repeat (first | with_reducible exact Below.refl _ _ | with_reducible refine bAlloc ?_ _)) hb3
  have hs3 := hk3.size
  have hz3 := hb3.size
  (try simp at hz3)
  have kb3_a0 := bBox hk3 (W.heap.size) (by omega)
  have hlt3_a0 : W.heap.size < w3.heap.size := by omega
  have ho_x1 := ho_x1.below hk3
  have H := bTrans H hk3
  have hlo_w0 : Hid (∀ q ∈ fpC v_w0, w2.heap.size ≤ q) := fun q hq => by have h1 := hf_w0.lo q hq; (try simp at h1); omega
  have hhi_w0 : Hid (∀ q ∈ fpC v_w0, q < w3.heap.size) := hf_w0.hi
  have hlo_w1 : Hid (∀ q ∈ fpS v_w1, w2.heap.size ≤ q) := fun q hq => by have h1 := hf_w1.lo q hq; (try simp at h1); omega
  have hhi_w1 : Hid (∀ q ∈ fpS v_w1, q < w3.heap.size) := hf_w1.hi
  go_wp2_with fail
  refine Calls.mono (toChannel_k v0 d0 _ hfw0 ?_) ?_
  · exact hr0.below (by repeat (first | with_reducible exact H | with_reducible refine bAlloc ?_ _))
  rintro e w4 ⟨v_x2, rfl, ho_x2, hf_x2, hb4⟩
  have hk4 : Below w3.heap.size w3 w4 := bTrans (by repeat (first | with_reducible exact Below.refl _ _ | with_reducible refine bAlloc ?_ _)) hb4
  have hs4 := hk4.size
  have hz4 := hb4.size
  (try simp at hz4)
  have kb4_a0 := bBox hk4 (W.heap.size) (by omega)
  have kb4_w0 := bBox hb4 (w3.heap.size) (by first | omega | (simp; done) | (simp; omega))
  have hlt4_a0 : W.heap.size < w4.heap.size := by omega
  have hlt4_w0 : w3.heap.size < w4.heap.size := by omega
  have ho_x1 := ho_x1.below hk4
  have ho_w0 := ho_w0.below hk4
  have ho_w1 := ho_w1.below hk4
  have H := bTrans H hk4
  have hlo_x2 : Hid (∀ q ∈ fpC v_x2, w3.heap.size + 1 ≤ q) := fun q hq => by have h1 := hf_x2.lo q hq; (try simp at h1); omega
  have hhi_x2 : Hid (∀ q ∈ fpC v_x2, q < w4.heap.size) := hf_x2.hi
  go_wp2_with fail
  refine Calls.mono (impl_TakeInbox_k v_x2 d0 _ HM0.out hok0 ?_) ?_
  · exact (ho_x2.rd.below (by repeat (first | with_reducible exact Below.refl _ _ | with_reducible refine bAlloc ?_ _)))
  rintro e w5 ⟨v_g0, v_g1, rfl, ho_g0, hf_g0, ho_g1, hf_g1, hap_g, hb5⟩
  have hk5 : Below w4.heap.size w4 w5 := bTrans (by repeat (first | with_reducible exact Below.refl _ _ | with_reducible refine bAlloc ?_ _)) hb5
  have hs5 := hk5.size
  have hz5 := hb5.size
  (try simp at hz5)
  have kb5_a0 := bBox hk5 (W.heap.size) (by omega)
  have kb5_w0 := bBox hk5 (w3.heap.size) (by omega)
  have kb5_x0v := bBox hb5 (w4.heap.size) (by first | omega | (simp; done) | (simp; omega))
  have hlt5_a0 : W.heap.size < w5.heap.size := by omega
  have hlt5_w0 : w3.heap.size < w5.heap.size := by omega
  have hlt5_x0v : w4.heap.size < w5.heap.size := by omega
  have ho_x1 := ho_x1.below hk5
  have ho_w0 := ho_w0.below hk5
  have ho_w1 := ho_w1.below hk5
  have ho_x2 := ho_x2.below hk5
  have H := bTrans H hk5
  have hlo_g0 : Hid (∀ q ∈ fpC v_g0, w4.heap.size + 1 ≤ q) := fun q hq => by have h1 := hf_g0.lo q hq; (try simp at h1); omega
  have hhi_g0 : Hid (∀ q ∈ fpC v_g0, q < w5.heap.size) := hf_g0.hi
  have hlo_g1 : Hid (∀ q ∈ fpS v_g1, w4.heap.size + 1 ≤ q) := fun q hq => by have h1 := hf_g1.lo q hq; (try simp at h1); omega
  have hhi_g1 : Hid (∀ q ∈ fpS v_g1, q < w5.heap.size) := hf_g1.hi
  go_wp2_with fail
  refine Calls.mono (eqChannel_k v_g0 v_w0 (takeC d0) _ (fewC_take hfw0) ?_ ?_) ?_
  · exact (ho_g0.rd.below (by repeat (first | with_reducible exact Below.refl _ _ | with_reducible refine bAlloc ?_ _)))
  · exact (ho_w0.rd.below (by repeat (first | with_reducible exact Below.refl _ _ | with_reducible refine bAlloc ?_ _)))
  rintro e w6 ⟨rfl, hb6⟩
  have hk6 : Below w5.heap.size w5 w6 := bTrans (by repeat (first | with_reducible exact Below.refl _ _ | with_reducible refine bAlloc ?_ _)) hb6
  have hs6 := hk6.size
  have hz6 := hb6.size
  (try simp at hz6)
  have kb6_a0 := bBox hk6 (W.heap.size) (by omega)
  have kb6_w0 := bBox hk6 (w3.heap.size) (by omega)
  have kb6_x0v := bBox hk6 (w4.heap.size) (by omega)
  have kb6_g0 := bBox hb6 (w5.heap.size) (by first | omega | (simp; done) | (simp; omega))
  have hlt6_a0 : W.heap.size < w6.heap.size := by omega
  have hlt6_w0 : w3.heap.size < w6.heap.size := by omega
  have hlt6_x0v : w4.heap.size < w6.heap.size := by omega
  have hlt6_g0 : w5.heap.size < w6.heap.size := by omega
  have ho_x1 := ho_x1.below hk6
  have ho_w0 := ho_w0.below hk6
  have ho_w1 := ho_w1.below hk6
  have ho_x2 := ho_x2.below hk6
  have ho_g0 := ho_g0.below hk6
  have ho_g1 := ho_g1.below hk6
  have H := bTrans H hk6
  go_wp2_with fail
  refine Calls.mono (eqStringS_k v_g1 v_w1 (d0.inbox) _ hfw0.2.1 ?_ ?_) ?_
  · exact (ho_g1.rd.below (by repeat (first | with_reducible exact Below.refl _ _ | with_reducible refine bAlloc ?_ _)))
  · exact (ho_w1.rd.below (by repeat (first | with_reducible exact Below.refl _ _ | with_reducible refine bAlloc ?_ _)))
  rintro e w7 ⟨rfl, hb7⟩
  have hk7 : Below w6.heap.size w6 w7 := bTrans (by repeat (first | with_reducible exact Below.refl _ _ | with_reducible refine bAlloc ?_ _)) hb7
  have hs7 := hk7.size
  have hz7 := hb7.size
  (try simp at hz7)
  have kb7_a0 := bBox hk7 (W.heap.size) (by omega)
  have kb7_w0 := bBox hk7 (w3.heap.size) (by omega)
  have kb7_x0v := bBox hk7 (w4.heap.size) (by omega)
  have kb7_g0 := bBox hk7 (w5.heap.size) (by omega)
  have hlt7_a0 : W.heap.size < w7.heap.size := by omega
  have hlt7_w0 : w3.heap.size < w7.heap.size := by omega
  have hlt7_x0v : w4.heap.size < w7.heap.size := by omega
  have hlt7_g0 : w5.heap.size < w7.heap.size := by omega
  have ho_x1 := ho_x1.below hk7
  have ho_w0 := ho_w0.below hk7
  have ho_w1 := ho_w1.below hk7
  have ho_x2 := ho_x2.below hk7
  have ho_g0 := ho_g0.below hk7
  have ho_g1 := ho_g1.below hk7
  have H := bTrans H hk7
  go_wp2_with fail
  refine region_at fun R7 hW7 => ?_
  have hr7r : Below w7.heap.size w7 R7 := by rw [hW7.out]; exact (by repeat (first | with_reducible exact Below.refl _ _ | with_reducible refine bAlloc ?_ _))
  have Hr7 := bTrans H hr7r
  have kr7_x0v := bBox hr7r (w4.heap.size) (by omega)
  have g7_0 : R7.cell? ⟨w4.heap.size, 0, none⟩ = some (.slice v_x2.q.A v_x2.q.n v_x2.q.c) := by rw [kr7_x0v, kb7_x0v, kb6_x0v, kb5_x0v]; simp
  have g7_1 : R7.cell? ⟨w4.heap.size, 1, none⟩ = some (.int .i64 (d0).base) := by rw [kr7_x0v, kb7_x0v, kb6_x0v, kb5_x0v]; simp
  have g7_2 : R7.cell? ⟨w4.heap.size, 2, none⟩ = some (.int .i64 (d0).expected) := by rw [kr7_x0v, kb7_x0v, kb6_x0v, kb5_x0v]; simp
  have g7_3 : R7.cell? ⟨w4.heap.size, 3, none⟩ = some (.slice v_x2.i.A v_x2.i.n v_x2.i.c) := by rw [kr7_x0v, kb7_x0v, kb6_x0v, kb5_x0v]; simp
  have g7_4 : R7.cell? ⟨w4.heap.size, 4, none⟩ = some (.slice v_x2.n.A v_x2.n.n v_x2.n.c) := by rw [kr7_x0v, kb7_x0v, kb6_x0v, kb5_x0v]; simp
  have g7_5 : R7.cell? ⟨w4.heap.size, 5, none⟩ = some (.slice v_x2.a.A v_x2.a.n v_x2.a.c) := by rw [kr7_x0v, kb7_x0v, kb6_x0v, kb5_x0v]; simp
  have kr7_a0 := bBox hr7r (W.heap.size) (by omega)
  have g7_6 : R7.cell? ⟨W.heap.size, 0, none⟩ = some (.slice v0.q.A v0.q.n v0.q.c) := by rw [kr7_a0, kb7_a0, kb6_a0, kb5_a0, kb4_a0, kb3_a0, kb2_a0, kb1_a0]; simp
  have g7_7 : R7.cell? ⟨W.heap.size, 1, none⟩ = some (.int .i64 (d0).base) := by rw [kr7_a0, kb7_a0, kb6_a0, kb5_a0, kb4_a0, kb3_a0, kb2_a0, kb1_a0]; simp
  have g7_8 : R7.cell? ⟨W.heap.size, 2, none⟩ = some (.int .i64 (d0).expected) := by rw [kr7_a0, kb7_a0, kb6_a0, kb5_a0, kb4_a0, kb3_a0, kb2_a0, kb1_a0]; simp
  have g7_9 : R7.cell? ⟨W.heap.size, 3, none⟩ = some (.slice v0.i.A v0.i.n v0.i.c) := by rw [kr7_a0, kb7_a0, kb6_a0, kb5_a0, kb4_a0, kb3_a0, kb2_a0, kb1_a0]; simp
  have g7_10 : R7.cell? ⟨W.heap.size, 4, none⟩ = some (.slice v0.n.A v0.n.n v0.n.c) := by rw [kr7_a0, kb7_a0, kb6_a0, kb5_a0, kb4_a0, kb3_a0, kb2_a0, kb1_a0]; simp
  have g7_11 : R7.cell? ⟨W.heap.size, 5, none⟩ = some (.slice v0.a.A v0.a.n v0.a.c) := by rw [kr7_a0, kb7_a0, kb6_a0, kb5_a0, kb4_a0, kb3_a0, kb2_a0, kb1_a0]; simp
  have hzr7 := hr7r.size
  go_region_held3 (fun w' => w'.cell? ⟨w4.heap.size, 0, none⟩ = some (.slice v_x2.q.A v_x2.q.n v_x2.q.c) ∧ w'.cell? ⟨w4.heap.size, 1, none⟩ = some (.int .i64 (d0).base) ∧ w'.cell? ⟨w4.heap.size, 2, none⟩ = some (.int .i64 (d0).expected) ∧ w'.cell? ⟨w4.heap.size, 3, none⟩ = some (.slice v_x2.i.A v_x2.i.n v_x2.i.c) ∧ w'.cell? ⟨w4.heap.size, 4, none⟩ = some (.slice v_x2.n.A v_x2.n.n v_x2.n.c) ∧ w'.cell? ⟨w4.heap.size, 5, none⟩ = some (.slice v_x2.a.A v_x2.a.n v_x2.a.c) ∧ w'.cell? ⟨W.heap.size, 0, none⟩ = some (.slice v0.q.A v0.q.n v0.q.c) ∧ w'.cell? ⟨W.heap.size, 1, none⟩ = some (.int .i64 (d0).base) ∧ w'.cell? ⟨W.heap.size, 2, none⟩ = some (.int .i64 (d0).expected) ∧ w'.cell? ⟨W.heap.size, 3, none⟩ = some (.slice v0.i.A v0.i.n v0.i.c) ∧ w'.cell? ⟨W.heap.size, 4, none⟩ = some (.slice v0.n.A v0.n.n v0.n.c) ∧ w'.cell? ⟨W.heap.size, 5, none⟩ = some (.slice v0.a.A v0.a.n v0.a.c)) (first | go_keep | ((repeat' apply And.intro) <;> (first | exact bCell hb9 (bCell hb8 (by assumption)) | exact bCell hb8 (by assumption) | exact bCell hb8 (by assumption) | exact bCell hb9 (by assumption)))) ((first | (go_at_call 20; refine (toChannel_k v0 d0 _ hfw0 (hr0.below (bDrew Hr7))).mono ?_; rintro e w8 ⟨v_x3, rfl, ho_x3, hf_x3, hb8⟩) | (go_at_call 22; refine (eqChannel_k v_x2 v_x3 d0 _ hfw0 (ho_x2.rd.below (bTrans (bDrew hr7r) hb8)) ho_x3.rd).mono ?_; rintro e w9 ⟨rfl, hb9⟩)))
  have hk8 : Below w7.heap.size w7 w8 := bTrans (bDrew hr7r) hb8
  have hs8 := hk8.size
  have hz8 := hb8.size
  (try simp at hz8)
  have hk9 : Below w8.heap.size w8 w9 := hb9
  have hs9 := hk9.size
  have kb9_a0 : ∀ o, w9.cell? ⟨W.heap.size, o, none⟩ = w7.cell? ⟨W.heap.size, o, none⟩ := fun o => (bBox hk9 (W.heap.size) (by omega) o).trans (bBox hk8 (W.heap.size) (by omega) o)
  have kb9_w0 : ∀ o, w9.cell? ⟨w3.heap.size, o, none⟩ = w7.cell? ⟨w3.heap.size, o, none⟩ := fun o => (bBox hk9 (w3.heap.size) (by omega) o).trans (bBox hk8 (w3.heap.size) (by omega) o)
  have kb9_x0v : ∀ o, w9.cell? ⟨w4.heap.size, o, none⟩ = w7.cell? ⟨w4.heap.size, o, none⟩ := fun o => (bBox hk9 (w4.heap.size) (by omega) o).trans (bBox hk8 (w4.heap.size) (by omega) o)
  have kb9_g0 : ∀ o, w9.cell? ⟨w5.heap.size, o, none⟩ = w7.cell? ⟨w5.heap.size, o, none⟩ := fun o => (bBox hk9 (w5.heap.size) (by omega) o).trans (bBox hk8 (w5.heap.size) (by omega) o)
  have hlt9_a0 : W.heap.size < w9.heap.size := by omega
  have hlt9_w0 : w3.heap.size < w9.heap.size := by omega
  have hlt9_x0v : w4.heap.size < w9.heap.size := by omega
  have hlt9_g0 : w5.heap.size < w9.heap.size := by omega
  have ho_x1 := ((ho_x1.below hk8).below hk9)
  have ho_w0 := ((ho_w0.below hk8).below hk9)
  have ho_w1 := ((ho_w1.below hk8).below hk9)
  have ho_x2 := ((ho_x2.below hk8).below hk9)
  have ho_g0 := ((ho_g0.below hk8).below hk9)
  have ho_g1 := ((ho_g1.below hk8).below hk9)
  have hlo_x3 : Hid (∀ q ∈ fpC v_x3, w7.heap.size ≤ q) := fun q hq => by have h1 := hf_x3.lo q hq; (try simp at h1); omega
  have hhi_x3 : Hid (∀ q ∈ fpC v_x3, q < w8.heap.size) := hf_x3.hi
  have ho_x3 := (ho_x3.below hk9)
  have H := (bTrans (bTrans H hk8) hk9)
  go_wp2_with fail
  refine Calls.mono (markChannel_k v_x2 d0 _ _ (by omega) (by omega) hfw0 ?_ hf_x2.nodup) ?_
  · exact (ho_x2.below (by repeat (first | with_reducible exact Below.refl _ _ | with_reducible refine bAlloc ?_ _)))
  rintro e w10 ⟨rfl, ho_x2n, hu10⟩
  have hv10 : Upd (fpC v_x2) w9 w10 := (Upd.of_below (by repeat (first | with_reducible exact Below.refl _ _ | with_reducible refine bAlloc ?_ _))).trans hu10
  have hs10 := hv10.size
  have hz10 := hu10.size
  (try simp at hz10)
  have kb10_a0 := uBox hv10 (W.heap.size) (by omega) (fun hm => by have h1 := hlo_x2.out _ hm; have h2 := hhi_x2.out _ hm; omega)
  have kb10_w0 := uBox hv10 (w3.heap.size) (by omega) (fun hm => by have h1 := hlo_x2.out _ hm; have h2 := hhi_x2.out _ hm; omega)
  have kb10_x0v := uBox hv10 (w4.heap.size) (by omega) (fun hm => by have h1 := hlo_x2.out _ hm; have h2 := hhi_x2.out _ hm; omega)
  have kb10_g0 := uBox hv10 (w5.heap.size) (by omega) (fun hm => by have h1 := hlo_x2.out _ hm; have h2 := hhi_x2.out _ hm; omega)
  have hlt10_a0 : W.heap.size < w10.heap.size := by omega
  have hlt10_w0 : w3.heap.size < w10.heap.size := by omega
  have hlt10_x0v : w4.heap.size < w10.heap.size := by omega
  have hlt10_g0 : w5.heap.size < w10.heap.size := by omega
  have ho_x1 := ho_x1.upd hv10 (fun q hq hm => by have h1 := hlo_x1.out q hq; have h2 := hhi_x1.out q hq; have h3 := hlo_x2.out q hm; have h4 := hhi_x2.out q hm; omega)
  have ho_w0 := ho_w0.upd hv10 (fun q hq hm => by have h1 := hlo_w0.out q hq; have h2 := hhi_w0.out q hq; have h3 := hlo_x2.out q hm; have h4 := hhi_x2.out q hm; omega)
  have ho_w1 := ho_w1.upd hv10 (fun q hq hm => by have h1 := hlo_w1.out q hq; have h2 := hhi_w1.out q hq; have h3 := hlo_x2.out q hm; have h4 := hhi_x2.out q hm; omega)
  have ho_g0 := ho_g0.upd hv10 (fun q hq hm => by have h1 := hlo_g0.out q hq; have h2 := hhi_g0.out q hq; have h3 := hlo_x2.out q hm; have h4 := hhi_x2.out q hm; omega)
  have ho_g1 := ho_g1.upd hv10 (fun q hq hm => by have h1 := hlo_g1.out q hq; have h2 := hhi_g1.out q hq; have h3 := hlo_x2.out q hm; have h4 := hhi_x2.out q hm; omega)
  have ho_x3 := ho_x3.upd hv10 (fun q hq hm => by have h1 := hlo_x3.out q hq; have h2 := hhi_x3.out q hq; have h3 := hlo_x2.out q hm; have h4 := hhi_x2.out q hm; omega)
  have H := bUpd H hv10 (fun q hq => by have h1 := hlo_x2.out q hq; omega)
  have ho_x2 := ho_x2n
  clear ho_x2n
  have hc10 := cntC_few (show fewC d0 from hfw0)
  go_wp2_with fail
  refine Calls.mono (eqChannel_k v_g0 v_w0 (takeC d0) _ (fewC_take hfw0) ?_ ?_) ?_
  · exact (ho_g0.rd.below (by repeat (first | with_reducible exact Below.refl _ _ | with_reducible refine bAlloc ?_ _)))
  · exact (ho_w0.rd.below (by repeat (first | with_reducible exact Below.refl _ _ | with_reducible refine bAlloc ?_ _)))
  rintro e w11 ⟨rfl, hb11⟩
  have hk11 : Below w10.heap.size w10 w11 := bTrans (by repeat (first | with_reducible exact Below.refl _ _ | with_reducible refine bAlloc ?_ _)) hb11
  have hs11 := hk11.size
  have hz11 := hb11.size
  (try simp at hz11)
  have kb11_a0 := bBox hk11 (W.heap.size) (by omega)
  have kb11_w0 := bBox hk11 (w3.heap.size) (by omega)
  have kb11_x0v := bBox hk11 (w4.heap.size) (by omega)
  have kb11_g0 := bBox hk11 (w5.heap.size) (by omega)
  have hlt11_a0 : W.heap.size < w11.heap.size := by omega
  have hlt11_w0 : w3.heap.size < w11.heap.size := by omega
  have hlt11_x0v : w4.heap.size < w11.heap.size := by omega
  have hlt11_g0 : w5.heap.size < w11.heap.size := by omega
  have ho_x1 := ho_x1.below hk11
  have ho_w0 := ho_w0.below hk11
  have ho_w1 := ho_w1.below hk11
  have ho_x2 := ho_x2.below hk11
  have ho_g0 := ho_g0.below hk11
  have ho_g1 := ho_g1.below hk11
  have ho_x3 := ho_x3.below hk11
  have H := bTrans H hk11
  go_wp2_with fail
  refine Calls.mono (eqStringS_k v_g1 v_w1 (d0.inbox) _ hfw0.2.1 ?_ ?_) ?_
  · exact (ho_g1.rd.below (by repeat (first | with_reducible exact Below.refl _ _ | with_reducible refine bAlloc ?_ _)))
  · exact (ho_w1.rd.below (by repeat (first | with_reducible exact Below.refl _ _ | with_reducible refine bAlloc ?_ _)))
  rintro e w12 ⟨rfl, hb12⟩
  have hk12 : Below w11.heap.size w11 w12 := bTrans (by repeat (first | with_reducible exact Below.refl _ _ | with_reducible refine bAlloc ?_ _)) hb12
  have hs12 := hk12.size
  have hz12 := hb12.size
  (try simp at hz12)
  have kb12_a0 := bBox hk12 (W.heap.size) (by omega)
  have kb12_w0 := bBox hk12 (w3.heap.size) (by omega)
  have kb12_x0v := bBox hk12 (w4.heap.size) (by omega)
  have kb12_g0 := bBox hk12 (w5.heap.size) (by omega)
  have hlt12_a0 : W.heap.size < w12.heap.size := by omega
  have hlt12_w0 : w3.heap.size < w12.heap.size := by omega
  have hlt12_x0v : w4.heap.size < w12.heap.size := by omega
  have hlt12_g0 : w5.heap.size < w12.heap.size := by omega
  have ho_x1 := ho_x1.below hk12
  have ho_w0 := ho_w0.below hk12
  have ho_w1 := ho_w1.below hk12
  have ho_x2 := ho_x2.below hk12
  have ho_g0 := ho_g0.below hk12
  have ho_g1 := ho_g1.below hk12
  have ho_x3 := ho_x3.below hk12
  have H := bTrans H hk12
  go_wp2_with fail
  refine Calls.mono (markChannel_k v_g0 (takeC d0) _ _ (by omega) (by omega) (fewC_take hfw0) ?_ hf_g0.nodup) ?_
  · exact (ho_g0.below (by repeat (first | with_reducible exact Below.refl _ _ | with_reducible refine bAlloc ?_ _)))
  rintro e w13 ⟨rfl, ho_g0n, hu13⟩
  have hv13 : Upd (fpC v_g0) w12 w13 := (Upd.of_below (by repeat (first | with_reducible exact Below.refl _ _ | with_reducible refine bAlloc ?_ _))).trans hu13
  have hs13 := hv13.size
  have hz13 := hu13.size
  (try simp at hz13)
  have kb13_a0 := uBox hv13 (W.heap.size) (by omega) (fun hm => by have h1 := hlo_g0.out _ hm; have h2 := hhi_g0.out _ hm; omega)
  have kb13_w0 := uBox hv13 (w3.heap.size) (by omega) (fun hm => by have h1 := hlo_g0.out _ hm; have h2 := hhi_g0.out _ hm; omega)
  have kb13_x0v := uBox hv13 (w4.heap.size) (by omega) (fun hm => by have h1 := hlo_g0.out _ hm; have h2 := hhi_g0.out _ hm; omega)
  have kb13_g0 := uBox hv13 (w5.heap.size) (by omega) (fun hm => by have h1 := hlo_g0.out _ hm; have h2 := hhi_g0.out _ hm; omega)
  have hlt13_a0 : W.heap.size < w13.heap.size := by omega
  have hlt13_w0 : w3.heap.size < w13.heap.size := by omega
  have hlt13_x0v : w4.heap.size < w13.heap.size := by omega
  have hlt13_g0 : w5.heap.size < w13.heap.size := by omega
  have ho_x1 := ho_x1.upd hv13 (fun q hq hm => by have h1 := hlo_x1.out q hq; have h2 := hhi_x1.out q hq; have h3 := hlo_g0.out q hm; have h4 := hhi_g0.out q hm; omega)
  have ho_w0 := ho_w0.upd hv13 (fun q hq hm => by have h1 := hlo_w0.out q hq; have h2 := hhi_w0.out q hq; have h3 := hlo_g0.out q hm; have h4 := hhi_g0.out q hm; omega)
  have ho_w1 := ho_w1.upd hv13 (fun q hq hm => by have h1 := hlo_w1.out q hq; have h2 := hhi_w1.out q hq; have h3 := hlo_g0.out q hm; have h4 := hhi_g0.out q hm; omega)
  have ho_x2 := ho_x2.upd hv13 (fun q hq hm => by have h1 := hlo_x2.out q hq; have h2 := hhi_x2.out q hq; have h3 := hlo_g0.out q hm; have h4 := hhi_g0.out q hm; omega)
  have ho_g1 := ho_g1.upd hv13 (fun q hq hm => hap_g q hm hq)
  have ho_x3 := ho_x3.upd hv13 (fun q hq hm => by have h1 := hlo_x3.out q hq; have h2 := hhi_x3.out q hq; have h3 := hlo_g0.out q hm; have h4 := hhi_g0.out q hm; omega)
  have H := bUpd H hv13 (fun q hq => by have h1 := hlo_g0.out q hq; omega)
  have ho_g0 := ho_g0n
  clear ho_g0n
  have hc13 := cntC_few (show fewC (takeC d0) from (fewC_take hfw0))
  go_wp2_with fail
  refine Calls.mono (markStringS_k v_g1 (d0.inbox) _ _ (by omega) (by omega) hfw0.2.1 ?_ hf_g1.nodup) ?_
  · exact (ho_g1.below (by repeat (first | with_reducible exact Below.refl _ _ | with_reducible refine bAlloc ?_ _)))
  rintro e w14 ⟨rfl, ho_g1n, hu14⟩
  have hv14 : Upd (fpS v_g1) w13 w14 := (Upd.of_below (by repeat (first | with_reducible exact Below.refl _ _ | with_reducible refine bAlloc ?_ _))).trans hu14
  have hs14 := hv14.size
  have hz14 := hu14.size
  (try simp at hz14)
  have kb14_a0 := uBox hv14 (W.heap.size) (by omega) (fun hm => by have h1 := hlo_g1.out _ hm; have h2 := hhi_g1.out _ hm; omega)
  have kb14_w0 := uBox hv14 (w3.heap.size) (by omega) (fun hm => by have h1 := hlo_g1.out _ hm; have h2 := hhi_g1.out _ hm; omega)
  have kb14_x0v := uBox hv14 (w4.heap.size) (by omega) (fun hm => by have h1 := hlo_g1.out _ hm; have h2 := hhi_g1.out _ hm; omega)
  have kb14_g0 := uBox hv14 (w5.heap.size) (by omega) (fun hm => by have h1 := hlo_g1.out _ hm; have h2 := hhi_g1.out _ hm; omega)
  have hlt14_a0 : W.heap.size < w14.heap.size := by omega
  have hlt14_w0 : w3.heap.size < w14.heap.size := by omega
  have hlt14_x0v : w4.heap.size < w14.heap.size := by omega
  have hlt14_g0 : w5.heap.size < w14.heap.size := by omega
  have ho_x1 := ho_x1.upd hv14 (fun q hq hm => by have h1 := hlo_x1.out q hq; have h2 := hhi_x1.out q hq; have h3 := hlo_g1.out q hm; have h4 := hhi_g1.out q hm; omega)
  have ho_w0 := ho_w0.upd hv14 (fun q hq hm => by have h1 := hlo_w0.out q hq; have h2 := hhi_w0.out q hq; have h3 := hlo_g1.out q hm; have h4 := hhi_g1.out q hm; omega)
  have ho_w1 := ho_w1.upd hv14 (fun q hq hm => by have h1 := hlo_w1.out q hq; have h2 := hhi_w1.out q hq; have h3 := hlo_g1.out q hm; have h4 := hhi_g1.out q hm; omega)
  have ho_x2 := ho_x2.upd hv14 (fun q hq hm => by have h1 := hlo_x2.out q hq; have h2 := hhi_x2.out q hq; have h3 := hlo_g1.out q hm; have h4 := hhi_g1.out q hm; omega)
  have ho_g0 := ho_g0.upd hv14 (fun q hq hm => hap_g q hq hm)
  have ho_x3 := ho_x3.upd hv14 (fun q hq hm => by have h1 := hlo_x3.out q hq; have h2 := hhi_x3.out q hq; have h3 := hlo_g1.out q hm; have h4 := hhi_g1.out q hm; omega)
  have H := bUpd H hv14 (fun q hq => by have h1 := hlo_g1.out q hq; omega)
  have ho_g1 := ho_g1n
  clear ho_g1n
  have hc14 := cntS_few (show fewS (d0.inbox) from hfw0.2.1)
  go_wp2_with fail
  refine Calls.mono (heldChannel_k v_g0 (takeC d0) _ _ (by omega) (by omega) (fewC_take hfw0) ?_ _ _) ?_
  · exact (ho_g0.rd.below (by repeat (first | with_reducible exact Below.refl _ _ | with_reducible refine bAlloc ?_ _)))
  rintro e w15 ⟨rfl, hb15⟩
  have hk15 : Below w14.heap.size w14 w15 := bTrans (by repeat (first | with_reducible exact Below.refl _ _ | with_reducible refine bAlloc ?_ _)) hb15
  have hs15 := hk15.size
  have hz15 := hb15.size
  (try simp at hz15)
  have kb15_a0 := bBox hk15 (W.heap.size) (by omega)
  have kb15_w0 := bBox hk15 (w3.heap.size) (by omega)
  have kb15_x0v := bBox hk15 (w4.heap.size) (by omega)
  have kb15_g0 := bBox hk15 (w5.heap.size) (by omega)
  have hlt15_a0 : W.heap.size < w15.heap.size := by omega
  have hlt15_w0 : w3.heap.size < w15.heap.size := by omega
  have hlt15_x0v : w4.heap.size < w15.heap.size := by omega
  have hlt15_g0 : w5.heap.size < w15.heap.size := by omega
  have ho_x1 := ho_x1.below hk15
  have ho_w0 := ho_w0.below hk15
  have ho_w1 := ho_w1.below hk15
  have ho_x2 := ho_x2.below hk15
  have ho_g0 := ho_g0.below hk15
  have ho_g1 := ho_g1.below hk15
  have ho_x3 := ho_x3.below hk15
  have H := bTrans H hk15
  go_wp2_with fail
  refine Calls.mono (heldStringS_k v_g1 (d0.inbox) _ _ (by omega) (by omega) hfw0.2.1 ?_) ?_
  · exact (ho_g1.rd.below (by repeat (first | with_reducible exact Below.refl _ _ | with_reducible refine bAlloc ?_ _)))
  rintro e w16 ⟨rfl, hb16⟩
  have hk16 : Below w15.heap.size w15 w16 := bTrans (by repeat (first | with_reducible exact Below.refl _ _ | with_reducible refine bAlloc ?_ _)) hb16
  have hs16 := hk16.size
  have hz16 := hb16.size
  (try simp at hz16)
  have kb16_a0 := bBox hk16 (W.heap.size) (by omega)
  have kb16_w0 := bBox hk16 (w3.heap.size) (by omega)
  have kb16_x0v := bBox hk16 (w4.heap.size) (by omega)
  have kb16_g0 := bBox hk16 (w5.heap.size) (by omega)
  have hlt16_a0 : W.heap.size < w16.heap.size := by omega
  have hlt16_w0 : w3.heap.size < w16.heap.size := by omega
  have hlt16_x0v : w4.heap.size < w16.heap.size := by omega
  have hlt16_g0 : w5.heap.size < w16.heap.size := by omega
  have ho_x1 := ho_x1.below hk16
  have ho_w0 := ho_w0.below hk16
  have ho_w1 := ho_w1.below hk16
  have ho_x2 := ho_x2.below hk16
  have ho_g0 := ho_g0.below hk16
  have ho_g1 := ho_g1.below hk16
  have ho_x3 := ho_x3.below hk16
  have H := bTrans H hk16
  go_wp2_with fail
  refine Calls.mono (toChannel_k v0 d0 _ hfw0 ?_) ?_
  · exact hr0.below (by repeat (first | with_reducible exact H | with_reducible refine bAlloc ?_ _))
  rintro e w17 ⟨v_x4, rfl, ho_x4, hf_x4, hb17⟩
  have hk17 : Below w16.heap.size w16 w17 := bTrans (by repeat (first | with_reducible exact Below.refl _ _ | with_reducible refine bAlloc ?_ _)) hb17
  have hs17 := hk17.size
  have hz17 := hb17.size
  (try simp at hz17)
  have kb17_a0 := bBox hk17 (W.heap.size) (by omega)
  have kb17_w0 := bBox hk17 (w3.heap.size) (by omega)
  have kb17_x0v := bBox hk17 (w4.heap.size) (by omega)
  have kb17_g0 := bBox hk17 (w5.heap.size) (by omega)
  have hlt17_a0 : W.heap.size < w17.heap.size := by omega
  have hlt17_w0 : w3.heap.size < w17.heap.size := by omega
  have hlt17_x0v : w4.heap.size < w17.heap.size := by omega
  have hlt17_g0 : w5.heap.size < w17.heap.size := by omega
  have ho_x1 := ho_x1.below hk17
  have ho_w0 := ho_w0.below hk17
  have ho_w1 := ho_w1.below hk17
  have ho_x2 := ho_x2.below hk17
  have ho_g0 := ho_g0.below hk17
  have ho_g1 := ho_g1.below hk17
  have ho_x3 := ho_x3.below hk17
  have H := bTrans H hk17
  have hlo_x4 : Hid (∀ q ∈ fpC v_x4, w16.heap.size ≤ q) := fun q hq => by have h1 := hf_x4.lo q hq; (try simp at h1); omega
  have hhi_x4 : Hid (∀ q ∈ fpC v_x4, q < w17.heap.size) := hf_x4.hi
  go_wp2_with fail
  refine Calls.mono (impl_TakeInbox_k v_x4 d0 _ HM0.out hok0 ?_) ?_
  · exact (ho_x4.rd.below (by repeat (first | with_reducible exact Below.refl _ _ | with_reducible refine bAlloc ?_ _)))
  rintro e w18 ⟨v_h0, v_h1, rfl, ho_h0, hf_h0, ho_h1, hf_h1, hap_h, hb18⟩
  have hk18 : Below w17.heap.size w17 w18 := bTrans (by repeat (first | with_reducible exact Below.refl _ _ | with_reducible refine bAlloc ?_ _)) hb18
  have hs18 := hk18.size
  have hz18 := hb18.size
  (try simp at hz18)
  have kb18_a0 := bBox hk18 (W.heap.size) (by omega)
  have kb18_w0 := bBox hk18 (w3.heap.size) (by omega)
  have kb18_x0v := bBox hk18 (w4.heap.size) (by omega)
  have kb18_g0 := bBox hk18 (w5.heap.size) (by omega)
  have hlt18_a0 : W.heap.size < w18.heap.size := by omega
  have hlt18_w0 : w3.heap.size < w18.heap.size := by omega
  have hlt18_x0v : w4.heap.size < w18.heap.size := by omega
  have hlt18_g0 : w5.heap.size < w18.heap.size := by omega
  have ho_x1 := ho_x1.below hk18
  have ho_w0 := ho_w0.below hk18
  have ho_w1 := ho_w1.below hk18
  have ho_x2 := ho_x2.below hk18
  have ho_g0 := ho_g0.below hk18
  have ho_g1 := ho_g1.below hk18
  have ho_x3 := ho_x3.below hk18
  have ho_x4 := ho_x4.below hk18
  have H := bTrans H hk18
  have hlo_h0 : Hid (∀ q ∈ fpC v_h0, w17.heap.size ≤ q) := fun q hq => by have h1 := hf_h0.lo q hq; (try simp at h1); omega
  have hhi_h0 : Hid (∀ q ∈ fpC v_h0, q < w18.heap.size) := hf_h0.hi
  have hlo_h1 : Hid (∀ q ∈ fpS v_h1, w17.heap.size ≤ q) := fun q hq => by have h1 := hf_h1.lo q hq; (try simp at h1); omega
  have hhi_h1 : Hid (∀ q ∈ fpS v_h1, q < w18.heap.size) := hf_h1.hi
  go_wp2_with fail
  refine Calls.mono (eqChannel_k v_h0 v_w0 (takeC d0) _ (fewC_take hfw0) ?_ ?_) ?_
  · exact (ho_h0.rd.below (by repeat (first | with_reducible exact Below.refl _ _ | with_reducible refine bAlloc ?_ _)))
  · exact (ho_w0.rd.below (by repeat (first | with_reducible exact Below.refl _ _ | with_reducible refine bAlloc ?_ _)))
  rintro e w19 ⟨rfl, hb19⟩
  have hk19 : Below w18.heap.size w18 w19 := bTrans (by repeat (first | with_reducible exact Below.refl _ _ | with_reducible refine bAlloc ?_ _)) hb19
  have hs19 := hk19.size
  have hz19 := hb19.size
  (try simp at hz19)
  have kb19_a0 := bBox hk19 (W.heap.size) (by omega)
  have kb19_w0 := bBox hk19 (w3.heap.size) (by omega)
  have kb19_x0v := bBox hk19 (w4.heap.size) (by omega)
  have kb19_g0 := bBox hk19 (w5.heap.size) (by omega)
  have kb19_h0 := bBox hb19 (w18.heap.size) (by first | omega | (simp; done) | (simp; omega))
  have hlt19_a0 : W.heap.size < w19.heap.size := by omega
  have hlt19_w0 : w3.heap.size < w19.heap.size := by omega
  have hlt19_x0v : w4.heap.size < w19.heap.size := by omega
  have hlt19_g0 : w5.heap.size < w19.heap.size := by omega
  have hlt19_h0 : w18.heap.size < w19.heap.size := by omega
  have ho_x1 := ho_x1.below hk19
  have ho_w0 := ho_w0.below hk19
  have ho_w1 := ho_w1.below hk19
  have ho_x2 := ho_x2.below hk19
  have ho_g0 := ho_g0.below hk19
  have ho_g1 := ho_g1.below hk19
  have ho_x3 := ho_x3.below hk19
  have ho_x4 := ho_x4.below hk19
  have ho_h0 := ho_h0.below hk19
  have ho_h1 := ho_h1.below hk19
  have H := bTrans H hk19
  go_wp2_with fail
  refine Calls.mono (eqStringS_k v_h1 v_w1 (d0.inbox) _ hfw0.2.1 ?_ ?_) ?_
  · exact (ho_h1.rd.below (by repeat (first | with_reducible exact Below.refl _ _ | with_reducible refine bAlloc ?_ _)))
  · exact (ho_w1.rd.below (by repeat (first | with_reducible exact Below.refl _ _ | with_reducible refine bAlloc ?_ _)))
  rintro e w20 ⟨rfl, hb20⟩
  have hk20 : Below w19.heap.size w19 w20 := bTrans (by repeat (first | with_reducible exact Below.refl _ _ | with_reducible refine bAlloc ?_ _)) hb20
  have hs20 := hk20.size
  have hz20 := hb20.size
  (try simp at hz20)
  have kb20_a0 := bBox hk20 (W.heap.size) (by omega)
  have kb20_w0 := bBox hk20 (w3.heap.size) (by omega)
  have kb20_x0v := bBox hk20 (w4.heap.size) (by omega)
  have kb20_g0 := bBox hk20 (w5.heap.size) (by omega)
  have kb20_h0 := bBox hk20 (w18.heap.size) (by omega)
  have hlt20_a0 : W.heap.size < w20.heap.size := by omega
  have hlt20_w0 : w3.heap.size < w20.heap.size := by omega
  have hlt20_x0v : w4.heap.size < w20.heap.size := by omega
  have hlt20_g0 : w5.heap.size < w20.heap.size := by omega
  have hlt20_h0 : w18.heap.size < w20.heap.size := by omega
  have ho_x1 := ho_x1.below hk20
  have ho_w0 := ho_w0.below hk20
  have ho_w1 := ho_w1.below hk20
  have ho_x2 := ho_x2.below hk20
  have ho_g0 := ho_g0.below hk20
  have ho_g1 := ho_g1.below hk20
  have ho_x3 := ho_x3.below hk20
  have ho_x4 := ho_x4.below hk20
  have ho_h0 := ho_h0.below hk20
  have ho_h1 := ho_h1.below hk20
  have H := bTrans H hk20
  go_wp2_with fail
  refine Calls.mono (heldChannel_k v_g0 (takeC d0) _ _ (by omega) (by omega) (fewC_take hfw0) ?_ _ _) ?_
  · exact (ho_g0.rd.below (by repeat (first | with_reducible exact Below.refl _ _ | with_reducible refine bAlloc ?_ _)))
  rintro e w21 ⟨rfl, hb21⟩
  have hk21 : Below w20.heap.size w20 w21 := bTrans (by repeat (first | with_reducible exact Below.refl _ _ | with_reducible refine bAlloc ?_ _)) hb21
  have hs21 := hk21.size
  have hz21 := hb21.size
  (try simp at hz21)
  have kb21_a0 := bBox hk21 (W.heap.size) (by omega)
  have kb21_w0 := bBox hk21 (w3.heap.size) (by omega)
  have kb21_x0v := bBox hk21 (w4.heap.size) (by omega)
  have kb21_g0 := bBox hk21 (w5.heap.size) (by omega)
  have kb21_h0 := bBox hk21 (w18.heap.size) (by omega)
  have hlt21_a0 : W.heap.size < w21.heap.size := by omega
  have hlt21_w0 : w3.heap.size < w21.heap.size := by omega
  have hlt21_x0v : w4.heap.size < w21.heap.size := by omega
  have hlt21_g0 : w5.heap.size < w21.heap.size := by omega
  have hlt21_h0 : w18.heap.size < w21.heap.size := by omega
  have ho_x1 := ho_x1.below hk21
  have ho_w0 := ho_w0.below hk21
  have ho_w1 := ho_w1.below hk21
  have ho_x2 := ho_x2.below hk21
  have ho_g0 := ho_g0.below hk21
  have ho_g1 := ho_g1.below hk21
  have ho_x3 := ho_x3.below hk21
  have ho_x4 := ho_x4.below hk21
  have ho_h0 := ho_h0.below hk21
  have ho_h1 := ho_h1.below hk21
  have H := bTrans H hk21
  go_wp2_with fail
  refine Calls.mono (heldStringS_k v_g1 (d0.inbox) _ _ (by omega) (by omega) hfw0.2.1 ?_) ?_
  · exact (ho_g1.rd.below (by repeat (first | with_reducible exact Below.refl _ _ | with_reducible refine bAlloc ?_ _)))
  rintro e w22 ⟨rfl, hb22⟩
  have hk22 : Below w21.heap.size w21 w22 := bTrans (by repeat (first | with_reducible exact Below.refl _ _ | with_reducible refine bAlloc ?_ _)) hb22
  have hs22 := hk22.size
  have hz22 := hb22.size
  (try simp at hz22)
  have kb22_a0 := bBox hk22 (W.heap.size) (by omega)
  have kb22_w0 := bBox hk22 (w3.heap.size) (by omega)
  have kb22_x0v := bBox hk22 (w4.heap.size) (by omega)
  have kb22_g0 := bBox hk22 (w5.heap.size) (by omega)
  have kb22_h0 := bBox hk22 (w18.heap.size) (by omega)
  have hlt22_a0 : W.heap.size < w22.heap.size := by omega
  have hlt22_w0 : w3.heap.size < w22.heap.size := by omega
  have hlt22_x0v : w4.heap.size < w22.heap.size := by omega
  have hlt22_g0 : w5.heap.size < w22.heap.size := by omega
  have hlt22_h0 : w18.heap.size < w22.heap.size := by omega
  have ho_x1 := ho_x1.below hk22
  have ho_w0 := ho_w0.below hk22
  have ho_w1 := ho_w1.below hk22
  have ho_x2 := ho_x2.below hk22
  have ho_g0 := ho_g0.below hk22
  have ho_g1 := ho_g1.below hk22
  have ho_x3 := ho_x3.below hk22
  have ho_x4 := ho_x4.below hk22
  have ho_h0 := ho_h0.below hk22
  have ho_h1 := ho_h1.below hk22
  have H := bTrans H hk22
  go_wp2_with fail
  go_ret
  exact ⟨rfl, H⟩
end Go.Proofs.Ytadmeijogbljhaa
