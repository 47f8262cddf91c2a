/- The walk of the law FnExactFormatBundle. -/
import Derived.Test.YtbfajhfmfdiacaaDoorFBun
namespace Go.Proofs.YtbfajhfmfdiacaaDoor
open Go.RowKit
set_option linter.unusedVariables false
set_option linter.unusedSimpArgs false
set_option maxHeartbeats 1600000
set_option maxRecDepth 100000
theorem w_FnExactFormatBundle (W : World) (v0 : Sv) (d0 : Bundle) (hr0 : RdB W v0 d0) (hok0 : okB d0) (hl0 : lenB v0) (hT : Tab W) :
    Calls Tryd.prog 8 #[vBundle (d0).robot v0.A v0.n v0.c] W fun e w' => e = rBool true ∧ Below W.heap.size W w' := by
  have HT := Lib.hid hT
  clear hT
  go_enter Tryd.func8, Tryd.ntmps8
  go_wp2_with fail
  refine Calls.mono (szBundle_k v0 d0 _ _ (by omega) (by omega) hl0 hok0 ?_) ?_
  · exact hr0.below (by repeat (first | with_reducible exact Below.refl _ _ | with_reducible refine bAlloc ?_ _))
  rintro e w1 ⟨⟨r0, rfl, hp⟩, hb1⟩
  have hk1 : Below W.heap.size W w1 := bTrans (by repeat (first | with_reducible exact Below.refl _ _ | with_reducible refine bAlloc ?_ _)) hb1
  have hs1 := hk1.size
  have hz1 := hb1.size
  (try simp at hz1)
  have kb1_a0 := bBox hb1 (W.heap.size) (by first | omega | (simp; done) | (simp; omega))
  have hlt1_a0 : W.heap.size < w1.heap.size := by omega
  have H := bTrans (Below.refl _ W) hk1
  rcases hp with rfl | ⟨hp0, hp1⟩
  · go_wp2_with fail
    go_ret
    exact ⟨rfl, H⟩
  have hrl0 : r0 ≤ 1048576 := by have := hp1.out; omega
  have hr00 : 0 ≤ r0 := hp0
  have hm0 : bulkB d0 ≤ 1048576 := by have := hp1.out; omega
  have HM0 := Lib.hid hm0
  have hfw0 := fewB_of hm0
  clear hp0 hp1
  go_wp2_with fail
  refine Calls.mono (toBundle_k v0 d0 _ hfw0 ?_) ?_
  · exact hr0.below (by repeat (first | with_reducible exact H | with_reducible refine bAlloc ?_ _))
  rintro e w2 ⟨v_x1, rfl, ho_x1, hf_x1, hb2⟩
  have hk2 : Below w1.heap.size w1 w2 := bTrans (by repeat (first | with_reducible exact Below.refl _ _ | with_reducible refine bAlloc ?_ _)) hb2
  have hs2 := hk2.size
  have hz2 := hb2.size
  (try simp at hz2)
  have kb2_a0 := bBox hk2 (W.heap.size) (by omega)
  have hlt2_a0 : W.heap.size < w2.heap.size := by omega
  have H := bTrans H hk2
  have hlo_x1 : Hid (∀ q ∈ fpB v_x1, w1.heap.size ≤ q) := fun q hq => by have h1 := hf_x1.lo q hq; (try simp at h1); omega
  have hhi_x1 : Hid (∀ q ∈ fpB v_x1, q < w2.heap.size) := hf_x1.hi
  go_wp2_with fail
  refine Calls.mono (spec_FormatBundle_k v_x1 d0 _ HM0.out hok0 ?_) ?_
  · exact (ho_x1.rd.below (by repeat (first | with_reducible exact Below.refl _ _ | with_reducible refine bAlloc ?_ _)))
  rintro e w3 ⟨rfl, hb3⟩
  have hk3 : Below w2.heap.size w2 w3 := bTrans (by repeat (first | with_reducible exact Below.refl _ _ | with_reducible refine bAlloc ?_ _)) hb3
  have hs3 := hk3.size
  have hz3 := hb3.size
  (try simp at hz3)
  have kb3_a0 := bBox hk3 (W.heap.size) (by omega)
  have hlt3_a0 : W.heap.size < w3.heap.size := by omega
  have ho_x1 := ho_x1.below hk3
  have H := bTrans H hk3
  go_wp2_with fail
  refine Calls.mono (toBundle_k v0 d0 _ hfw0 ?_) ?_
  · exact hr0.below (by repeat (first | with_reducible exact H | with_reducible refine bAlloc ?_ _))
  rintro e w4 ⟨v_x2, rfl, ho_x2, hf_x2, hb4⟩
  have hk4 : Below w3.heap.size w3 w4 := bTrans (by repeat (first | with_reducible exact Below.refl _ _ | with_reducible refine bAlloc ?_ _)) hb4
  have hs4 := hk4.size
  have hz4 := hb4.size
  (try simp at hz4)
  have kb4_a0 := bBox hk4 (W.heap.size) (by omega)
  have hlt4_a0 : W.heap.size < w4.heap.size := by omega
  have ho_x1 := ho_x1.below hk4
  have H := bTrans H hk4
  have hlo_x2 : Hid (∀ q ∈ fpB v_x2, w3.heap.size ≤ q) := fun q hq => by have h1 := hf_x2.lo q hq; (try simp at h1); omega
  have hhi_x2 : Hid (∀ q ∈ fpB v_x2, q < w4.heap.size) := hf_x2.hi
  go_wp2_with fail
  refine Calls.mono (impl_FormatBundle_k v_x2 d0 _ HM0.out hok0 ?_ ?_) ?_
  · exact (ho_x2.rd.below (by repeat (first | with_reducible exact Below.refl _ _ | with_reducible refine bAlloc ?_ _)))
  · exact HT.out.below (by repeat (first | with_reducible exact H | with_reducible refine bAlloc ?_ _))
  rintro e w5 ⟨rfl, hb5⟩
  have hk5 : Below w4.heap.size w4 w5 := bTrans (by repeat (first | with_reducible exact Below.refl _ _ | with_reducible refine bAlloc ?_ _)) hb5
  have hs5 := hk5.size
  have hz5 := hb5.size
  (try simp at hz5)
  have kb5_a0 := bBox hk5 (W.heap.size) (by omega)
  have kb5_x0v := bBox hb5 (w4.heap.size) (by first | omega | (simp; done) | (simp; omega))
  have hlt5_a0 : W.heap.size < w5.heap.size := by omega
  have hlt5_x0v : w4.heap.size < w5.heap.size := by omega
  have ho_x1 := ho_x1.below hk5
  have ho_x2 := ho_x2.below hk5
  have H := bTrans H hk5
  go_wp2_with fail
  refine region_at fun R5 hW5 => ?_
  have hr5r : Below w5.heap.size w5 R5 := by rw [hW5.out]; exact (by repeat (first | with_reducible exact Below.refl _ _ | with_reducible refine bAlloc ?_ _))
  have Hr5 := bTrans H hr5r
  have kr5_x0v := bBox hr5r (w4.heap.size) (by omega)
  have g5_0 : R5.cell? ⟨w4.heap.size, 0, none⟩ = some (.int .i64 (d0).robot) := by rw [kr5_x0v, kb5_x0v]; simp
  have g5_1 : R5.cell? ⟨w4.heap.size, 1, none⟩ = some (.slice v_x2.A v_x2.n v_x2.c) := by rw [kr5_x0v, kb5_x0v]; simp
  have kr5_a0 := bBox hr5r (W.heap.size) (by omega)
  have g5_2 : R5.cell? ⟨W.heap.size, 0, none⟩ = some (.int .i64 (d0).robot) := by rw [kr5_a0, kb5_a0, kb4_a0, kb3_a0, kb2_a0, kb1_a0]; simp
  have g5_3 : R5.cell? ⟨W.heap.size, 1, none⟩ = some (.slice v0.A v0.n v0.c) := by rw [kr5_a0, kb5_a0, kb4_a0, kb3_a0, kb2_a0, kb1_a0]; simp
  have hzr5 := hr5r.size
  go_region_held3 (fun w' => w'.cell? ⟨w4.heap.size, 0, none⟩ = some (.int .i64 (d0).robot) ∧ w'.cell? ⟨w4.heap.size, 1, none⟩ = some (.slice v_x2.A v_x2.n v_x2.c) ∧ w'.cell? ⟨W.heap.size, 0, none⟩ = some (.int .i64 (d0).robot) ∧ w'.cell? ⟨W.heap.size, 1, none⟩ = some (.slice v0.A v0.n v0.c)) (first | go_keep | ((repeat' apply And.intro) <;> (first | exact bCell hb7 (bCell hb6 (by assumption)) | exact bCell hb6 (by assumption) | exact bCell hb6 (by assumption) | exact bCell hb7 (by assumption)))) ((first | (go_at_call 36; refine (toBundle_k v0 d0 _ hfw0 (hr0.below (bDrew Hr5))).mono ?_; rintro e w6 ⟨v_x3, rfl, ho_x3, hf_x3, hb6⟩) | (go_at_call 38; refine (eqBundle_k v_x2 v_x3 d0 _ hfw0 (ho_x2.rd.below (bTrans (bDrew hr5r) hb6)) ho_x3.rd).mono ?_; rintro e w7 ⟨rfl, hb7⟩)))
  have hk6 : Below w5.heap.size w5 w6 := bTrans (bDrew hr5r) hb6
  have hs6 := hk6.size
  have hz6 := hb6.size
  (try simp at hz6)
  have hk7 : Below w6.heap.size w6 w7 := hb7
  have hs7 := hk7.size
  have kb7_a0 : ∀ o, w7.cell? ⟨W.heap.size, o, none⟩ = w5.cell? ⟨W.heap.size, o, none⟩ := fun o => (bBox hk7 (W.heap.size) (by omega) o).trans (bBox hk6 (W.heap.size) (by omega) o)
  have kb7_x0v : ∀ o, w7.cell? ⟨w4.heap.size, o, none⟩ = w5.cell? ⟨w4.heap.size, o, none⟩ := fun o => (bBox hk7 (w4.heap.size) (by omega) o).trans (bBox hk6 (w4.heap.size) (by omega) o)
  have hlt7_a0 : W.heap.size < w7.heap.size := by omega
  have hlt7_x0v : w4.heap.size < w7.heap.size := by omega
  have ho_x1 := ((ho_x1.below hk6).below hk7)
  have ho_x2 := ((ho_x2.below hk6).below hk7)
  have hlo_x3 : Hid (∀ q ∈ fpB v_x3, w5.heap.size ≤ q) := fun q hq => by have h1 := hf_x3.lo q hq; (try simp at h1); omega
  have hhi_x3 : Hid (∀ q ∈ fpB v_x3, q < w6.heap.size) := hf_x3.hi
  have ho_x3 := (ho_x3.below hk7)
  have H := (bTrans (bTrans H hk6) hk7)
  go_wp2_with fail
  go_ret
  exact ⟨rfl, H⟩
end Go.Proofs.YtbfajhfmfdiacaaDoor
