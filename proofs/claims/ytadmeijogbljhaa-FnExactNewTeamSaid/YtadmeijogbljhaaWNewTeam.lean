/- The walk of the law FnExactNewTeam. -/
import Derived.Test.YtadmeijogbljhaaTeamM
import Derived.Test.YtadmeijogbljhaaTeamN
namespace Go.Proofs.Ytadmeijogbljhaa
open Go.RowKit
set_option linter.unusedVariables false
set_option linter.unusedSimpArgs false
set_option maxHeartbeats 1600000
set_option maxRecDepth 100000
theorem w_FnExactNewTeam (W : World) (d0 : Int) (wf0 : (Lit.int .i64 d0).wf = true) :
    Calls Try.prog 9 #[.int .i64 d0] W fun e w' => e = rBool true ∧ Below W.heap.size W w' := by
  go_enter Try.func9, Try.ntmps9
  go_wp2_with fail
  refine Calls.mono (spec_NewTeam_k d0 _ wf0) ?_
  rintro e w1 ⟨v_w0, rfl, ho_w0, hf_w0, hb1⟩
  have hk1 : Below W.heap.size W w1 := bTrans (by repeat (first | with_reducible exact Below.refl _ _ | with_reducible refine bAlloc ?_ _)) hb1
  have hs1 := hk1.size
  have hz1 := hb1.size
  (try simp at hz1)
  have H := bTrans (Below.refl _ W) hk1
  have hlo_w0 : Hid (∀ q ∈ fpT v_w0, W.heap.size ≤ q) := fun q hq => by have h1 := hf_w0.lo q hq; (try simp at h1); omega
  have hhi_w0 : Hid (∀ q ∈ fpT v_w0, q < w1.heap.size) := hf_w0.hi
  go_wp2_with fail
  refine Calls.mono (impl_NewTeam_k d0 _ wf0) ?_
  rintro e w2 ⟨v_g0, rfl, ho_g0, hf_g0, hb2⟩
  have hk2 : Below w1.heap.size w1 w2 := bTrans (by repeat (first | with_reducible exact Below.refl _ _ | with_reducible refine bAlloc ?_ _)) hb2
  have hs2 := hk2.size
  have hz2 := hb2.size
  (try simp at hz2)
  have kb2_w0 := bBox hb2 (w1.heap.size) (by first | omega | (simp; done) | (simp; omega))
  have hlt2_w0 : w1.heap.size < w2.heap.size := by omega
  have ho_w0 := ho_w0.below hk2
  have H := bTrans H hk2
  have hlo_g0 : Hid (∀ q ∈ fpT v_g0, w1.heap.size + 1 ≤ q) := fun q hq => by have h1 := hf_g0.lo q hq; (try simp at h1); omega
  have hhi_g0 : Hid (∀ q ∈ fpT v_g0, q < w2.heap.size) := hf_g0.hi
  go_wp2_with fail
  refine Calls.mono (eqTeam_k v_g0 v_w0 ((newTeam d0).1) _ (fewT_new d0) ?_ ?_) ?_
  · exact (ho_g0.rd.below (by repeat (first | with_reducible exact Below.refl _ _ | with_reducible refine bAlloc ?_ _)))
  · exact (ho_w0.rd.below (by repeat (first | with_reducible exact Below.refl _ _ | with_reducible refine bAlloc ?_ _)))
  rintro e w3 ⟨rfl, hb3⟩
  have hk3 : Below w2.heap.size w2 w3 := bTrans (by repeat (first | with_reducible exact Below.refl _ _ | with_reducible refine bAlloc ?_ _)) hb3
  have hs3 := hk3.size
  have hz3 := hb3.size
  (try simp at hz3)
  have kb3_w0 := bBox hk3 (w1.heap.size) (by omega)
  have kb3_g0 := bBox hb3 (w2.heap.size) (by first | omega | (simp; done) | (simp; omega))
  have hlt3_w0 : w1.heap.size < w3.heap.size := by omega
  have hlt3_g0 : w2.heap.size < w3.heap.size := by omega
  have ho_w0 := ho_w0.below hk3
  have ho_g0 := ho_g0.below hk3
  have H := bTrans H hk3
  go_wp2_with fail
  refine Calls.mono (markTeam_k v_g0 ((newTeam d0).1) _ _ (by omega) (by omega) (fewT_new d0) ?_ hf_g0.nodup) ?_
  · exact (ho_g0.below (by repeat (first | with_reducible exact Below.refl _ _ | with_reducible refine bAlloc ?_ _)))
  rintro e w4 ⟨rfl, ho_g0n, hu4⟩
  have hv4 : Upd (fpT v_g0) w3 w4 := (Upd.of_below (by repeat (first | with_reducible exact Below.refl _ _ | with_reducible refine bAlloc ?_ _))).trans hu4
  have hs4 := hv4.size
  have hz4 := hu4.size
  (try simp at hz4)
  have kb4_w0 := uBox hv4 (w1.heap.size) (by omega) (fun hm => by have h1 := hlo_g0.out _ hm; have h2 := hhi_g0.out _ hm; omega)
  have kb4_g0 := uBox hv4 (w2.heap.size) (by omega) (fun hm => by have h1 := hlo_g0.out _ hm; have h2 := hhi_g0.out _ hm; omega)
  have hlt4_w0 : w1.heap.size < w4.heap.size := by omega
  have hlt4_g0 : w2.heap.size < w4.heap.size := by omega
  have ho_w0 := ho_w0.upd hv4 (fun q hq hm => by have h1 := hlo_w0.out q hq; have h2 := hhi_w0.out q hq; have h3 := hlo_g0.out q hm; have h4 := hhi_g0.out q hm; omega)
  have H := bUpd H hv4 (fun q hq => by have h1 := hlo_g0.out q hq; omega)
  have ho_g0 := ho_g0n
  clear ho_g0n
  have hc4 := cntT_few (show fewT ((newTeam d0).1) from (fewT_new d0))
  go_wp2_with fail
  refine Calls.mono (heldTeam_k v_g0 ((newTeam d0).1) _ _ (by omega) (by omega) (fewT_new d0) ?_) ?_
  · exact (ho_g0.rd.below (by repeat (first | with_reducible exact Below.refl _ _ | with_reducible refine bAlloc ?_ _)))
  rintro e w5 ⟨rfl, hb5⟩
  have hk5 : Below w4.heap.size w4 w5 := bTrans (by repeat (first | with_reducible exact Below.refl _ _ | with_reducible refine bAlloc ?_ _)) hb5
  have hs5 := hk5.size
  have hz5 := hb5.size
  (try simp at hz5)
  have kb5_w0 := bBox hk5 (w1.heap.size) (by omega)
  have kb5_g0 := bBox hk5 (w2.heap.size) (by omega)
  have hlt5_w0 : w1.heap.size < w5.heap.size := by omega
  have hlt5_g0 : w2.heap.size < w5.heap.size := by omega
  have ho_w0 := ho_w0.below hk5
  have ho_g0 := ho_g0.below hk5
  have H := bTrans H hk5
  go_wp2_with fail
  refine Calls.mono (impl_NewTeam_k d0 _ wf0) ?_
  rintro e w6 ⟨v_h0, rfl, ho_h0, hf_h0, hb6⟩
  have hk6 : Below w5.heap.size w5 w6 := bTrans (by repeat (first | with_reducible exact Below.refl _ _ | with_reducible refine bAlloc ?_ _)) hb6
  have hs6 := hk6.size
  have hz6 := hb6.size
  (try simp at hz6)
  have kb6_w0 := bBox hk6 (w1.heap.size) (by omega)
  have kb6_g0 := bBox hk6 (w2.heap.size) (by omega)
  have hlt6_w0 : w1.heap.size < w6.heap.size := by omega
  have hlt6_g0 : w2.heap.size < w6.heap.size := by omega
  have ho_w0 := ho_w0.below hk6
  have ho_g0 := ho_g0.below hk6
  have H := bTrans H hk6
  have hlo_h0 : Hid (∀ q ∈ fpT v_h0, w5.heap.size ≤ q) := fun q hq => by have h1 := hf_h0.lo q hq; (try simp at h1); omega
  have hhi_h0 : Hid (∀ q ∈ fpT v_h0, q < w6.heap.size) := hf_h0.hi
  go_wp2_with fail
  refine Calls.mono (eqTeam_k v_h0 v_w0 ((newTeam d0).1) _ (fewT_new d0) ?_ ?_) ?_
  · exact (ho_h0.rd.below (by repeat (first | with_reducible exact Below.refl _ _ | with_reducible refine bAlloc ?_ _)))
  · exact (ho_w0.rd.below (by repeat (first | with_reducible exact Below.refl _ _ | with_reducible refine bAlloc ?_ _)))
  rintro e w7 ⟨rfl, hb7⟩
  have hk7 : Below w6.heap.size w6 w7 := bTrans (by repeat (first | with_reducible exact Below.refl _ _ | with_reducible refine bAlloc ?_ _)) hb7
  have hs7 := hk7.size
  have hz7 := hb7.size
  (try simp at hz7)
  have kb7_w0 := bBox hk7 (w1.heap.size) (by omega)
  have kb7_g0 := bBox hk7 (w2.heap.size) (by omega)
  have kb7_h0 := bBox hb7 (w6.heap.size) (by first | omega | (simp; done) | (simp; omega))
  have hlt7_w0 : w1.heap.size < w7.heap.size := by omega
  have hlt7_g0 : w2.heap.size < w7.heap.size := by omega
  have hlt7_h0 : w6.heap.size < w7.heap.size := by omega
  have ho_w0 := ho_w0.below hk7
  have ho_g0 := ho_g0.below hk7
  have ho_h0 := ho_h0.below hk7
  have H := bTrans H hk7
  go_wp2_with fail
  refine Calls.mono (heldTeam_k v_g0 ((newTeam d0).1) _ _ (by omega) (by omega) (fewT_new d0) ?_) ?_
  · exact (ho_g0.rd.below (by repeat (first | with_reducible exact Below.refl _ _ | with_reducible refine bAlloc ?_ _)))
  rintro e w8 ⟨rfl, hb8⟩
  have hk8 : Below w7.heap.size w7 w8 := bTrans (by repeat (first | with_reducible exact Below.refl _ _ | with_reducible refine bAlloc ?_ _)) hb8
  have hs8 := hk8.size
  have hz8 := hb8.size
  (try simp at hz8)
  have kb8_w0 := bBox hk8 (w1.heap.size) (by omega)
  have kb8_g0 := bBox hk8 (w2.heap.size) (by omega)
  have kb8_h0 := bBox hk8 (w6.heap.size) (by omega)
  have hlt8_w0 : w1.heap.size < w8.heap.size := by omega
  have hlt8_g0 : w2.heap.size < w8.heap.size := by omega
  have hlt8_h0 : w6.heap.size < w8.heap.size := by omega
  have ho_w0 := ho_w0.below hk8
  have ho_g0 := ho_g0.below hk8
  have ho_h0 := ho_h0.below hk8
  have H := bTrans H hk8
  go_wp2_with fail
  go_ret
  exact ⟨rfl, H⟩
end Go.Proofs.Ytadmeijogbljhaa
