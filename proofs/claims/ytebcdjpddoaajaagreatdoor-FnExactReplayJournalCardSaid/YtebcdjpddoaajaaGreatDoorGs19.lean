/- Texts of this proof, one behind the other: FmtI1, FmtI2, FmtI3, FmtI4, FmtFI, EntP, EntI. -/
import Derived.Test.YtebcdjpddoaajaaGreatDoorGs15
import Derived.Test.YtebcdjpddoaajaaGreatDoorGs17
/- The program's FormatFactor at the kind 1. -/
namespace Go.Proofs.YtebcdjpddoaajaaGreatDoor
open Go.RowKit
set_option linter.unusedVariables false
set_option linter.unusedSimpArgs false
set_option maxHeartbeats 1000000
set_option maxRecDepth 100000
theorem impl_FormatFactor_1 (id : Int) (fr to : ByteArray) (t x y wt : Int) (w : World) (hv : vldFactor ⟨id, 1, fr, to, ⟨t, x, y⟩, wt⟩ = true) (hT : Tab w) :
    Calls Tryz.prog 43 #[vFactor id 1 fr to t x y wt] w fun e w' => e = .returned (.string (fmtFac ⟨id, 1, fr, to, ⟨t, x, y⟩, wt⟩)) ∧ Below w.heap.size w w' := by
  have HT := Lib.hid hT
  clear hT
  have HV := Lib.hid hv
  obtain ⟨p1, p2, p3, p4, p5, p6, p7⟩ := vld_parts hv
  dsimp only at p1 p2 p3 p4 p5 p6 p7
  obtain ⟨i0, i1⟩ := inR_iff.1 p1
  obtain ⟨q0, q1⟩ := inR_iff.1 p2
  have zt : to.size ≤ 8 := by rcases p7 with h | h <;> exact nm_size8 h
  have zp : (fmtPose t x y).size ≤ 45 := fmtPose_size p3
  have hpd : Hid ((fmtPose t x y).data.toList = poseL t x y) := fmtPose_data p3
  obtain rfl : fr = ⟨#[]⟩ := by
    have := p5 rfl
    rw [ByteArray.toList_eq] at this
    exact bext this
  obtain ⟨s0, e0, z0, c0⟩ := cat ⟨#[112, 114, 105, 111, 114]⟩ ⟨#[32]⟩ 5 1 (by decide) (by decide) (by omega)
  obtain ⟨s1, e1, z1, c1⟩ := cat s0 (itoaB id) (5 + 1) 21 (z0) (itoaB_size (by omega) (by omega)) (by omega)
  obtain ⟨s2, e2, z2, c2⟩ := cat s1 ⟨#[32]⟩ ((5 + 1) + 21) 1 (z1) (by decide) (by omega)
  obtain ⟨s3, e3, z3, c3⟩ := cat s2 to (((5 + 1) + 21) + 1) 8 (z2) (zt) (by omega)
  obtain ⟨s4, e4, z4, c4⟩ := cat s3 ⟨#[32]⟩ ((((5 + 1) + 21) + 1) + 8) 1 (z3) (by decide) (by omega)
  obtain ⟨s5, e5, z5, c5⟩ := cat s4 (fmtPose t x y) (((((5 + 1) + 21) + 1) + 8) + 1) 45 (z4) (zp) (by omega)
  obtain ⟨s6, e6, z6, c6⟩ := cat s5 ⟨#[32]⟩ ((((((5 + 1) + 21) + 1) + 8) + 1) + 45) 1 (z5) (by decide) (by omega)
  obtain ⟨s7, e7, z7, c7⟩ := cat s6 (itoaB wt) (((((((5 + 1) + 21) + 1) + 8) + 1) + 45) + 1) 21 (z6) (itoaB_size (by omega) (by omega)) (by omega)
  have hfin : Hid (fmtFac ⟨id, 1, ⟨#[]⟩, to, ⟨t, x, y⟩, wt⟩ = s7) := by
    simp only [Hid, fmtFac, HV.out, if_true]
    rw [← e7.out, ← e6.out, ← e5.out, ← e4.out, ← e3.out, ← e2.out, ← e1.out, ← e0.out]
    apply bext
    simp [facL, kindL, frmL, itoaB, ByteArray.data_append, hpd.out]
  have zf9 : ((⟨#[]⟩ : ByteArray)).size ≤ 1048576 := by decide
  clear z0 z1 z2 z3 z4 z5 z6 z7 hv p1 p2 p3 p4 p5 p6 p7 zp
  go_enter Tryz.func43, Tryz.ntmps43
  go_wp2_with (go_at_call 66; refine (impl_IsValidFactor_c _ _ _ _ _ _ _ _ _ zf9 (by omega)).mono ?_; rw [HV.out]; rintro e w1 ⟨rfl, hb1⟩; obtain ⟨hc, hfz⟩ := bcell hb1)
  refine region_at fun R hR => ?_
  have hwb : Below w.heap.size w R := by rw [hR.out]; exact bTrans (bAlloc (Below.refl _ _) _) hb1
  have g0 := cell_regrown (show R.cell? ⟨w.heap.size, 0, none⟩ = some (.int .i64 id) by rw [hR.out]; exact bCell hb1 (cells_a rfl))
  have g1 := cell_regrown (show R.cell? ⟨w.heap.size, 1, none⟩ = some (.int .i64 1) by rw [hR.out]; exact bCell hb1 (cells_a rfl))
  have g2 := cell_regrown (show R.cell? ⟨w.heap.size, 2, none⟩ = some (.string ⟨#[]⟩) by rw [hR.out]; exact bCell hb1 (cells_a rfl))
  have g3 := cell_regrown (show R.cell? ⟨w.heap.size, 3, none⟩ = some (.string to) by rw [hR.out]; exact bCell hb1 (cells_a rfl))
  have g4 := cell_regrown (show R.cell? ⟨w.heap.size, 4, none⟩ = some (.int .i64 t) by rw [hR.out]; exact bCell hb1 (cells_a rfl))
  have g5 := cell_regrown (show R.cell? ⟨w.heap.size, 5, none⟩ = some (.int .i64 x) by rw [hR.out]; exact bCell hb1 (cells_a rfl))
  have g6 := cell_regrown (show R.cell? ⟨w.heap.size, 6, none⟩ = some (.int .i64 y) by rw [hR.out]; exact bCell hb1 (cells_a rfl))
  have g7 := cell_regrown (show R.cell? ⟨w.heap.size, 7, none⟩ = some (.int .i64 wt) by rw [hR.out]; exact bCell hb1 (cells_a rfl))
  have tR := (HT.out).below hwb
  have cV : ∀ d os, Calls Tryz.prog 68 #[.int .i64 1] (Go.Sort.grow (redrawn R d) os) fun e w2 => e = .returned (.string ⟨#[112, 114, 105, 111, 114]⟩) ∧ ∃ p : Regrown, w2 = Go.Sort.grow (redrawn R p.d) p.os := fun d os => Calls.regrown_of (kindWord_1 _)
  have cW : ∀ d os, Calls Tryz.prog 42 #[.int .i64 id] (Go.Sort.grow (redrawn R d) os) fun e w2 => e = .returned (.string (itoaB id)) ∧ ∃ p : Regrown, w2 = Go.Sort.grow (redrawn R p.d) p.os := fun d os => Calls.regrown_of (impl_FormatInt_c id _ (by omega) (by omega) (tR.below (below_regrown R d os)))
  clear hR hc hfz tR hb1
  refine wp_region_quiet_below (by kernel_rfl) (by kernel_rfl) ?_
  repeat (go_big_quiet_step (first | exact cV _ _ | exact cW _ _))
  refine wpQuiet_nil ?_
  intro _ hw
  obtain ⟨⟨dq, osq⟩, hw⟩ := hw
  subst hw
  have hbq := bTrans hwb (below_regrown R dq osq)
  have h0 := hbq
  clear cV cW hwb
  go_wp2_with fail
  refine region_at fun W hW => ?_
  have hwc : Below w.heap.size w W := by rw [hW.out]; exact hbq
  have k0 := cell_regrown (show W.cell? ⟨w.heap.size, 0, none⟩ = some (.int .i64 id) by rw [hW.out]; exact g0 _ _)
  have k1 := cell_regrown (show W.cell? ⟨w.heap.size, 1, none⟩ = some (.int .i64 1) by rw [hW.out]; exact g1 _ _)
  have k2 := cell_regrown (show W.cell? ⟨w.heap.size, 2, none⟩ = some (.string ⟨#[]⟩) by rw [hW.out]; exact g2 _ _)
  have k3 := cell_regrown (show W.cell? ⟨w.heap.size, 3, none⟩ = some (.string to) by rw [hW.out]; exact g3 _ _)
  have k4 := cell_regrown (show W.cell? ⟨w.heap.size, 4, none⟩ = some (.int .i64 t) by rw [hW.out]; exact g4 _ _)
  have k5 := cell_regrown (show W.cell? ⟨w.heap.size, 5, none⟩ = some (.int .i64 x) by rw [hW.out]; exact g5 _ _)
  have k6 := cell_regrown (show W.cell? ⟨w.heap.size, 6, none⟩ = some (.int .i64 y) by rw [hW.out]; exact g6 _ _)
  have k7 := cell_regrown (show W.cell? ⟨w.heap.size, 7, none⟩ = some (.int .i64 wt) by rw [hW.out]; exact g7 _ _)
  have tR := (HT.out).below hwc
  have cV : ∀ d os, Calls Tryz.prog 69 #[vPose t x y] (Go.Sort.grow (redrawn W d) os) fun e w2 => e = .returned (.string (fmtPose t x y)) ∧ ∃ p : Regrown, w2 = Go.Sort.grow (redrawn W p.d) p.os := fun d os => Calls.regrown_of (impl_FormatPose_c t x y _ (tR.below (below_regrown W d os)))
  have cW : ∀ d os, Calls Tryz.prog 42 #[.int .i64 wt] (Go.Sort.grow (redrawn W d) os) fun e w2 => e = .returned (.string (itoaB wt)) ∧ ∃ p : Regrown, w2 = Go.Sort.grow (redrawn W p.d) p.os := fun d os => Calls.regrown_of (impl_FormatInt_c wt _ (by omega) (by omega) (tR.below (below_regrown W d os)))
  clear hW g0 g1 g2 g3 g4 g5 g6 g7 tR h0 hbq
  refine wp_region_quiet_below (by kernel_rfl) (by kernel_rfl) ?_
  repeat (go_big_quiet_step (first | exact cV _ _ | exact cW _ _))
  refine wpQuiet_nil ?_
  intro _ hw
  obtain ⟨⟨dq, osq⟩, hw⟩ := hw
  subst hw
  have hbq9 := bTrans hwc (below_regrown W dq osq)
  clear k0 k1 k2 k3 k4 k5 k6 k7 cV cW
  go_wp2
  go_ret
  exact ⟨by rw [hfin.out]; rfl, hbq9⟩
end Go.Proofs.YtebcdjpddoaajaaGreatDoor

/- The program's FormatFactor at the kind 2. -/
namespace Go.Proofs.YtebcdjpddoaajaaGreatDoor
open Go.RowKit
set_option linter.unusedVariables false
set_option linter.unusedSimpArgs false
set_option maxHeartbeats 1000000
set_option maxRecDepth 100000
theorem impl_FormatFactor_2 (id : Int) (fr to : ByteArray) (t x y wt : Int) (w : World) (hv : vldFactor ⟨id, 2, fr, to, ⟨t, x, y⟩, wt⟩ = true) (hT : Tab w) :
    Calls Tryz.prog 43 #[vFactor id 2 fr to t x y wt] w fun e w' => e = .returned (.string (fmtFac ⟨id, 2, fr, to, ⟨t, x, y⟩, wt⟩)) ∧ Below w.heap.size w w' := by
  have HT := Lib.hid hT
  clear hT
  have HV := Lib.hid hv
  obtain ⟨p1, p2, p3, p4, p5, p6, p7⟩ := vld_parts hv
  dsimp only at p1 p2 p3 p4 p5 p6 p7
  obtain ⟨i0, i1⟩ := inR_iff.1 p1
  obtain ⟨q0, q1⟩ := inR_iff.1 p2
  have zt : to.size ≤ 8 := by rcases p7 with h | h <;> exact nm_size8 h
  have zp : (fmtPose t x y).size ≤ 45 := fmtPose_size p3
  have hpd : Hid ((fmtPose t x y).data.toList = poseL t x y) := fmtPose_data p3
  have hpf := p6 (by decide)
  have zf : fr.size ≤ 8 := nm_size8 hpf
  have hfe : fr.toList.isEmpty = false := nm_nonempty hpf
  obtain ⟨sf, ef, zsf, cf⟩ := cat ⟨#[32]⟩ fr 1 8 (by decide) (zf) (by omega)
  obtain ⟨s0, e0, z0, c0⟩ := cat ⟨#[111, 100, 111, 109, 101, 116, 114, 121]⟩ ⟨#[32]⟩ 8 1 (by decide) (by decide) (by omega)
  obtain ⟨s1, e1, z1, c1⟩ := cat s0 (itoaB id) (8 + 1) 21 (z0) (itoaB_size (by omega) (by omega)) (by omega)
  obtain ⟨s2, e2, z2, c2⟩ := cat s1 sf ((8 + 1) + 21) 9 (z1) (zsf) (by omega)
  obtain ⟨s3, e3, z3, c3⟩ := cat s2 ⟨#[32]⟩ (((8 + 1) + 21) + 9) 1 (z2) (by decide) (by omega)
  obtain ⟨s4, e4, z4, c4⟩ := cat s3 to ((((8 + 1) + 21) + 9) + 1) 8 (z3) (zt) (by omega)
  obtain ⟨s5, e5, z5, c5⟩ := cat s4 ⟨#[32]⟩ (((((8 + 1) + 21) + 9) + 1) + 8) 1 (z4) (by decide) (by omega)
  obtain ⟨s6, e6, z6, c6⟩ := cat s5 (fmtPose t x y) ((((((8 + 1) + 21) + 9) + 1) + 8) + 1) 45 (z5) (zp) (by omega)
  obtain ⟨s7, e7, z7, c7⟩ := cat s6 ⟨#[32]⟩ (((((((8 + 1) + 21) + 9) + 1) + 8) + 1) + 45) 1 (z6) (by decide) (by omega)
  obtain ⟨s8, e8, z8, c8⟩ := cat s7 (itoaB wt) ((((((((8 + 1) + 21) + 9) + 1) + 8) + 1) + 45) + 1) 21 (z7) (itoaB_size (by omega) (by omega)) (by omega)
  have hfin : Hid (fmtFac ⟨id, 2, fr, to, ⟨t, x, y⟩, wt⟩ = s8) := by
    simp only [Hid, fmtFac, HV.out, if_true]
    rw [← e8.out, ← e7.out, ← e6.out, ← e5.out, ← e4.out, ← e3.out, ← e2.out, ← e1.out, ← e0.out]
    rw [← ef.out]
    apply bext
    simp [facL, kindL, frmL, itoaB, ByteArray.data_append, hpd.out]
  have zf9 : (fr).size ≤ 1048576 := by omega
  clear z0 z1 z2 z3 z4 z5 z6 z7 z8 hv p1 p2 p3 p4 p5 p6 p7 zp
  go_enter Tryz.func43, Tryz.ntmps43
  go_wp2_with (go_at_call 66; refine (impl_IsValidFactor_c _ _ _ _ _ _ _ _ _ zf9 (by omega)).mono ?_; rw [HV.out]; rintro e w1 ⟨rfl, hb1⟩; obtain ⟨hc, hfz⟩ := bcell hb1)
  refine region_at fun R hR => ?_
  have hwb : Below w.heap.size w R := by rw [hR.out]; exact bTrans (bAlloc (Below.refl _ _) _) hb1
  have g0 := cell_regrown (show R.cell? ⟨w.heap.size, 0, none⟩ = some (.int .i64 id) by rw [hR.out]; exact bCell hb1 (cells_a rfl))
  have g1 := cell_regrown (show R.cell? ⟨w.heap.size, 1, none⟩ = some (.int .i64 2) by rw [hR.out]; exact bCell hb1 (cells_a rfl))
  have g2 := cell_regrown (show R.cell? ⟨w.heap.size, 2, none⟩ = some (.string fr) by rw [hR.out]; exact bCell hb1 (cells_a rfl))
  have g3 := cell_regrown (show R.cell? ⟨w.heap.size, 3, none⟩ = some (.string to) by rw [hR.out]; exact bCell hb1 (cells_a rfl))
  have g4 := cell_regrown (show R.cell? ⟨w.heap.size, 4, none⟩ = some (.int .i64 t) by rw [hR.out]; exact bCell hb1 (cells_a rfl))
  have g5 := cell_regrown (show R.cell? ⟨w.heap.size, 5, none⟩ = some (.int .i64 x) by rw [hR.out]; exact bCell hb1 (cells_a rfl))
  have g6 := cell_regrown (show R.cell? ⟨w.heap.size, 6, none⟩ = some (.int .i64 y) by rw [hR.out]; exact bCell hb1 (cells_a rfl))
  have g7 := cell_regrown (show R.cell? ⟨w.heap.size, 7, none⟩ = some (.int .i64 wt) by rw [hR.out]; exact bCell hb1 (cells_a rfl))
  have tR := (HT.out).below hwb
  have cV : ∀ d os, Calls Tryz.prog 68 #[.int .i64 2] (Go.Sort.grow (redrawn R d) os) fun e w2 => e = .returned (.string ⟨#[111, 100, 111, 109, 101, 116, 114, 121]⟩) ∧ ∃ p : Regrown, w2 = Go.Sort.grow (redrawn R p.d) p.os := fun d os => Calls.regrown_of (kindWord_2 _)
  have cW : ∀ d os, Calls Tryz.prog 42 #[.int .i64 id] (Go.Sort.grow (redrawn R d) os) fun e w2 => e = .returned (.string (itoaB id)) ∧ ∃ p : Regrown, w2 = Go.Sort.grow (redrawn R p.d) p.os := fun d os => Calls.regrown_of (impl_FormatInt_c id _ (by omega) (by omega) (tR.below (below_regrown R d os)))
  clear hR hc hfz tR hb1
  refine wp_region_quiet_below (by kernel_rfl) (by kernel_rfl) ?_
  repeat (go_big_quiet_step (first | exact cV _ _ | exact cW _ _))
  refine wpQuiet_nil ?_
  intro _ hw
  obtain ⟨⟨dq, osq⟩, hw⟩ := hw
  subst hw
  have hbq := bTrans hwb (below_regrown R dq osq)
  have h0 := hbq
  clear cV cW hwb
  go_wp2_with fail
  refine region_at fun W hW => ?_
  have hwc : Below w.heap.size w W := by rw [hW.out]; exact hbq
  have k0 := cell_regrown (show W.cell? ⟨w.heap.size, 0, none⟩ = some (.int .i64 id) by rw [hW.out]; exact g0 _ _)
  have k1 := cell_regrown (show W.cell? ⟨w.heap.size, 1, none⟩ = some (.int .i64 2) by rw [hW.out]; exact g1 _ _)
  have k2 := cell_regrown (show W.cell? ⟨w.heap.size, 2, none⟩ = some (.string fr) by rw [hW.out]; exact g2 _ _)
  have k3 := cell_regrown (show W.cell? ⟨w.heap.size, 3, none⟩ = some (.string to) by rw [hW.out]; exact g3 _ _)
  have k4 := cell_regrown (show W.cell? ⟨w.heap.size, 4, none⟩ = some (.int .i64 t) by rw [hW.out]; exact g4 _ _)
  have k5 := cell_regrown (show W.cell? ⟨w.heap.size, 5, none⟩ = some (.int .i64 x) by rw [hW.out]; exact g5 _ _)
  have k6 := cell_regrown (show W.cell? ⟨w.heap.size, 6, none⟩ = some (.int .i64 y) by rw [hW.out]; exact g6 _ _)
  have k7 := cell_regrown (show W.cell? ⟨w.heap.size, 7, none⟩ = some (.int .i64 wt) by rw [hW.out]; exact g7 _ _)
  have tR := (HT.out).below hwc
  have cV : ∀ d os, Calls Tryz.prog 69 #[vPose t x y] (Go.Sort.grow (redrawn W d) os) fun e w2 => e = .returned (.string (fmtPose t x y)) ∧ ∃ p : Regrown, w2 = Go.Sort.grow (redrawn W p.d) p.os := fun d os => Calls.regrown_of (impl_FormatPose_c t x y _ (tR.below (below_regrown W d os)))
  have cW : ∀ d os, Calls Tryz.prog 42 #[.int .i64 wt] (Go.Sort.grow (redrawn W d) os) fun e w2 => e = .returned (.string (itoaB wt)) ∧ ∃ p : Regrown, w2 = Go.Sort.grow (redrawn W p.d) p.os := fun d os => Calls.regrown_of (impl_FormatInt_c wt _ (by omega) (by omega) (tR.below (below_regrown W d os)))
  clear hW g0 g1 g2 g3 g4 g5 g6 g7 tR h0 hbq
  refine wp_region_quiet_below (by kernel_rfl) (by kernel_rfl) ?_
  repeat (go_big_quiet_step (first | exact cV _ _ | exact cW _ _))
  refine wpQuiet_nil ?_
  intro _ hw
  obtain ⟨⟨dq, osq⟩, hw⟩ := hw
  subst hw
  have hbq9 := bTrans hwc (below_regrown W dq osq)
  clear k0 k1 k2 k3 k4 k5 k6 k7 cV cW
  go_wp2
  go_ret
  exact ⟨by rw [hfin.out]; rfl, hbq9⟩
end Go.Proofs.YtebcdjpddoaajaaGreatDoor

/- The program's FormatFactor at the kind 3. -/
namespace Go.Proofs.YtebcdjpddoaajaaGreatDoor
open Go.RowKit
set_option linter.unusedVariables false
set_option linter.unusedSimpArgs false
set_option maxHeartbeats 1000000
set_option maxRecDepth 100000
theorem impl_FormatFactor_3 (id : Int) (fr to : ByteArray) (t x y wt : Int) (w : World) (hv : vldFactor ⟨id, 3, fr, to, ⟨t, x, y⟩, wt⟩ = true) (hT : Tab w) :
    Calls Tryz.prog 43 #[vFactor id 3 fr to t x y wt] w fun e w' => e = .returned (.string (fmtFac ⟨id, 3, fr, to, ⟨t, x, y⟩, wt⟩)) ∧ Below w.heap.size w w' := by
  have HT := Lib.hid hT
  clear hT
  have HV := Lib.hid hv
  obtain ⟨p1, p2, p3, p4, p5, p6, p7⟩ := vld_parts hv
  dsimp only at p1 p2 p3 p4 p5 p6 p7
  obtain ⟨i0, i1⟩ := inR_iff.1 p1
  obtain ⟨q0, q1⟩ := inR_iff.1 p2
  have zt : to.size ≤ 8 := by rcases p7 with h | h <;> exact nm_size8 h
  have zp : (fmtPose t x y).size ≤ 45 := fmtPose_size p3
  have hpd : Hid ((fmtPose t x y).data.toList = poseL t x y) := fmtPose_data p3
  have hpf := p6 (by decide)
  have zf : fr.size ≤ 8 := nm_size8 hpf
  have hfe : fr.toList.isEmpty = false := nm_nonempty hpf
  obtain ⟨sf, ef, zsf, cf⟩ := cat ⟨#[32]⟩ fr 1 8 (by decide) (zf) (by omega)
  obtain ⟨s0, e0, z0, c0⟩ := cat ⟨#[108, 97, 110, 100, 109, 97, 114, 107]⟩ ⟨#[32]⟩ 8 1 (by decide) (by decide) (by omega)
  obtain ⟨s1, e1, z1, c1⟩ := cat s0 (itoaB id) (8 + 1) 21 (z0) (itoaB_size (by omega) (by omega)) (by omega)
  obtain ⟨s2, e2, z2, c2⟩ := cat s1 sf ((8 + 1) + 21) 9 (z1) (zsf) (by omega)
  obtain ⟨s3, e3, z3, c3⟩ := cat s2 ⟨#[32]⟩ (((8 + 1) + 21) + 9) 1 (z2) (by decide) (by omega)
  obtain ⟨s4, e4, z4, c4⟩ := cat s3 to ((((8 + 1) + 21) + 9) + 1) 8 (z3) (zt) (by omega)
  obtain ⟨s5, e5, z5, c5⟩ := cat s4 ⟨#[32]⟩ (((((8 + 1) + 21) + 9) + 1) + 8) 1 (z4) (by decide) (by omega)
  obtain ⟨s6, e6, z6, c6⟩ := cat s5 (fmtPose t x y) ((((((8 + 1) + 21) + 9) + 1) + 8) + 1) 45 (z5) (zp) (by omega)
  obtain ⟨s7, e7, z7, c7⟩ := cat s6 ⟨#[32]⟩ (((((((8 + 1) + 21) + 9) + 1) + 8) + 1) + 45) 1 (z6) (by decide) (by omega)
  obtain ⟨s8, e8, z8, c8⟩ := cat s7 (itoaB wt) ((((((((8 + 1) + 21) + 9) + 1) + 8) + 1) + 45) + 1) 21 (z7) (itoaB_size (by omega) (by omega)) (by omega)
  have hfin : Hid (fmtFac ⟨id, 3, fr, to, ⟨t, x, y⟩, wt⟩ = s8) := by
    simp only [Hid, fmtFac, HV.out, if_true]
    rw [← e8.out, ← e7.out, ← e6.out, ← e5.out, ← e4.out, ← e3.out, ← e2.out, ← e1.out, ← e0.out]
    rw [← ef.out]
    apply bext
    simp [facL, kindL, frmL, itoaB, ByteArray.data_append, hpd.out]
  have zf9 : (fr).size ≤ 1048576 := by omega
  clear z0 z1 z2 z3 z4 z5 z6 z7 z8 hv p1 p2 p3 p4 p5 p6 p7 zp
  go_enter Tryz.func43, Tryz.ntmps43
  go_wp2_with (go_at_call 66; refine (impl_IsValidFactor_c _ _ _ _ _ _ _ _ _ zf9 (by omega)).mono ?_; rw [HV.out]; rintro e w1 ⟨rfl, hb1⟩; obtain ⟨hc, hfz⟩ := bcell hb1)
  refine region_at fun R hR => ?_
  have hwb : Below w.heap.size w R := by rw [hR.out]; exact bTrans (bAlloc (Below.refl _ _) _) hb1
  have g0 := cell_regrown (show R.cell? ⟨w.heap.size, 0, none⟩ = some (.int .i64 id) by rw [hR.out]; exact bCell hb1 (cells_a rfl))
  have g1 := cell_regrown (show R.cell? ⟨w.heap.size, 1, none⟩ = some (.int .i64 3) by rw [hR.out]; exact bCell hb1 (cells_a rfl))
  have g2 := cell_regrown (show R.cell? ⟨w.heap.size, 2, none⟩ = some (.string fr) by rw [hR.out]; exact bCell hb1 (cells_a rfl))
  have g3 := cell_regrown (show R.cell? ⟨w.heap.size, 3, none⟩ = some (.string to) by rw [hR.out]; exact bCell hb1 (cells_a rfl))
  have g4 := cell_regrown (show R.cell? ⟨w.heap.size, 4, none⟩ = some (.int .i64 t) by rw [hR.out]; exact bCell hb1 (cells_a rfl))
  have g5 := cell_regrown (show R.cell? ⟨w.heap.size, 5, none⟩ = some (.int .i64 x) by rw [hR.out]; exact bCell hb1 (cells_a rfl))
  have g6 := cell_regrown (show R.cell? ⟨w.heap.size, 6, none⟩ = some (.int .i64 y) by rw [hR.out]; exact bCell hb1 (cells_a rfl))
  have g7 := cell_regrown (show R.cell? ⟨w.heap.size, 7, none⟩ = some (.int .i64 wt) by rw [hR.out]; exact bCell hb1 (cells_a rfl))
  have tR := (HT.out).below hwb
  have cV : ∀ d os, Calls Tryz.prog 68 #[.int .i64 3] (Go.Sort.grow (redrawn R d) os) fun e w2 => e = .returned (.string ⟨#[108, 97, 110, 100, 109, 97, 114, 107]⟩) ∧ ∃ p : Regrown, w2 = Go.Sort.grow (redrawn R p.d) p.os := fun d os => Calls.regrown_of (kindWord_3 _)
  have cW : ∀ d os, Calls Tryz.prog 42 #[.int .i64 id] (Go.Sort.grow (redrawn R d) os) fun e w2 => e = .returned (.string (itoaB id)) ∧ ∃ p : Regrown, w2 = Go.Sort.grow (redrawn R p.d) p.os := fun d os => Calls.regrown_of (impl_FormatInt_c id _ (by omega) (by omega) (tR.below (below_regrown R d os)))
  clear hR hc hfz tR hb1
  refine wp_region_quiet_below (by kernel_rfl) (by kernel_rfl) ?_
  repeat (go_big_quiet_step (first | exact cV _ _ | exact cW _ _))
  refine wpQuiet_nil ?_
  intro _ hw
  obtain ⟨⟨dq, osq⟩, hw⟩ := hw
  subst hw
  have hbq := bTrans hwb (below_regrown R dq osq)
  have h0 := hbq
  clear cV cW hwb
  go_wp2_with fail
  refine region_at fun W hW => ?_
  have hwc : Below w.heap.size w W := by rw [hW.out]; exact hbq
  have k0 := cell_regrown (show W.cell? ⟨w.heap.size, 0, none⟩ = some (.int .i64 id) by rw [hW.out]; exact g0 _ _)
  have k1 := cell_regrown (show W.cell? ⟨w.heap.size, 1, none⟩ = some (.int .i64 3) by rw [hW.out]; exact g1 _ _)
  have k2 := cell_regrown (show W.cell? ⟨w.heap.size, 2, none⟩ = some (.string fr) by rw [hW.out]; exact g2 _ _)
  have k3 := cell_regrown (show W.cell? ⟨w.heap.size, 3, none⟩ = some (.string to) by rw [hW.out]; exact g3 _ _)
  have k4 := cell_regrown (show W.cell? ⟨w.heap.size, 4, none⟩ = some (.int .i64 t) by rw [hW.out]; exact g4 _ _)
  have k5 := cell_regrown (show W.cell? ⟨w.heap.size, 5, none⟩ = some (.int .i64 x) by rw [hW.out]; exact g5 _ _)
  have k6 := cell_regrown (show W.cell? ⟨w.heap.size, 6, none⟩ = some (.int .i64 y) by rw [hW.out]; exact g6 _ _)
  have k7 := cell_regrown (show W.cell? ⟨w.heap.size, 7, none⟩ = some (.int .i64 wt) by rw [hW.out]; exact g7 _ _)
  have tR := (HT.out).below hwc
  have cV : ∀ d os, Calls Tryz.prog 69 #[vPose t x y] (Go.Sort.grow (redrawn W d) os) fun e w2 => e = .returned (.string (fmtPose t x y)) ∧ ∃ p : Regrown, w2 = Go.Sort.grow (redrawn W p.d) p.os := fun d os => Calls.regrown_of (impl_FormatPose_c t x y _ (tR.below (below_regrown W d os)))
  have cW : ∀ d os, Calls Tryz.prog 42 #[.int .i64 wt] (Go.Sort.grow (redrawn W d) os) fun e w2 => e = .returned (.string (itoaB wt)) ∧ ∃ p : Regrown, w2 = Go.Sort.grow (redrawn W p.d) p.os := fun d os => Calls.regrown_of (impl_FormatInt_c wt _ (by omega) (by omega) (tR.below (below_regrown W d os)))
  clear hW g0 g1 g2 g3 g4 g5 g6 g7 tR h0 hbq
  refine wp_region_quiet_below (by kernel_rfl) (by kernel_rfl) ?_
  repeat (go_big_quiet_step (first | exact cV _ _ | exact cW _ _))
  refine wpQuiet_nil ?_
  intro _ hw
  obtain ⟨⟨dq, osq⟩, hw⟩ := hw
  subst hw
  have hbq9 := bTrans hwc (below_regrown W dq osq)
  clear k0 k1 k2 k3 k4 k5 k6 k7 cV cW
  go_wp2
  go_ret
  exact ⟨by rw [hfin.out]; rfl, hbq9⟩
end Go.Proofs.YtebcdjpddoaajaaGreatDoor

/- The program's FormatFactor at the kind 4. -/
namespace Go.Proofs.YtebcdjpddoaajaaGreatDoor
open Go.RowKit
set_option linter.unusedVariables false
set_option linter.unusedSimpArgs false
set_option maxHeartbeats 1000000
set_option maxRecDepth 100000
theorem impl_FormatFactor_4 (id : Int) (fr to : ByteArray) (t x y wt : Int) (w : World) (hv : vldFactor ⟨id, 4, fr, to, ⟨t, x, y⟩, wt⟩ = true) (hT : Tab w) :
    Calls Tryz.prog 43 #[vFactor id 4 fr to t x y wt] w fun e w' => e = .returned (.string (fmtFac ⟨id, 4, fr, to, ⟨t, x, y⟩, wt⟩)) ∧ Below w.heap.size w w' := by
  have HT := Lib.hid hT
  clear hT
  have HV := Lib.hid hv
  obtain ⟨p1, p2, p3, p4, p5, p6, p7⟩ := vld_parts hv
  dsimp only at p1 p2 p3 p4 p5 p6 p7
  obtain ⟨i0, i1⟩ := inR_iff.1 p1
  obtain ⟨q0, q1⟩ := inR_iff.1 p2
  have zt : to.size ≤ 8 := by rcases p7 with h | h <;> exact nm_size8 h
  have zp : (fmtPose t x y).size ≤ 45 := fmtPose_size p3
  have hpd : Hid ((fmtPose t x y).data.toList = poseL t x y) := fmtPose_data p3
  have hpf := p6 (by decide)
  have zf : fr.size ≤ 8 := nm_size8 hpf
  have hfe : fr.toList.isEmpty = false := nm_nonempty hpf
  obtain ⟨sf, ef, zsf, cf⟩ := cat ⟨#[32]⟩ fr 1 8 (by decide) (zf) (by omega)
  obtain ⟨s0, e0, z0, c0⟩ := cat ⟨#[108, 111, 111, 112]⟩ ⟨#[32]⟩ 4 1 (by decide) (by decide) (by omega)
  obtain ⟨s1, e1, z1, c1⟩ := cat s0 (itoaB id) (4 + 1) 21 (z0) (itoaB_size (by omega) (by omega)) (by omega)
  obtain ⟨s2, e2, z2, c2⟩ := cat s1 sf ((4 + 1) + 21) 9 (z1) (zsf) (by omega)
  obtain ⟨s3, e3, z3, c3⟩ := cat s2 ⟨#[32]⟩ (((4 + 1) + 21) + 9) 1 (z2) (by decide) (by omega)
  obtain ⟨s4, e4, z4, c4⟩ := cat s3 to ((((4 + 1) + 21) + 9) + 1) 8 (z3) (zt) (by omega)
  obtain ⟨s5, e5, z5, c5⟩ := cat s4 ⟨#[32]⟩ (((((4 + 1) + 21) + 9) + 1) + 8) 1 (z4) (by decide) (by omega)
  obtain ⟨s6, e6, z6, c6⟩ := cat s5 (fmtPose t x y) ((((((4 + 1) + 21) + 9) + 1) + 8) + 1) 45 (z5) (zp) (by omega)
  obtain ⟨s7, e7, z7, c7⟩ := cat s6 ⟨#[32]⟩ (((((((4 + 1) + 21) + 9) + 1) + 8) + 1) + 45) 1 (z6) (by decide) (by omega)
  obtain ⟨s8, e8, z8, c8⟩ := cat s7 (itoaB wt) ((((((((4 + 1) + 21) + 9) + 1) + 8) + 1) + 45) + 1) 21 (z7) (itoaB_size (by omega) (by omega)) (by omega)
  have hfin : Hid (fmtFac ⟨id, 4, fr, to, ⟨t, x, y⟩, wt⟩ = s8) := by
    simp only [Hid, fmtFac, HV.out, if_true]
    rw [← e8.out, ← e7.out, ← e6.out, ← e5.out, ← e4.out, ← e3.out, ← e2.out, ← e1.out, ← e0.out]
    rw [← ef.out]
    apply bext
    simp [facL, kindL, frmL, itoaB, ByteArray.data_append, hpd.out]
  have zf9 : (fr).size ≤ 1048576 := by omega
  clear z0 z1 z2 z3 z4 z5 z6 z7 z8 hv p1 p2 p3 p4 p5 p6 p7 zp
  go_enter Tryz.func43, Tryz.ntmps43
  go_wp2_with (go_at_call 66; refine (impl_IsValidFactor_c _ _ _ _ _ _ _ _ _ zf9 (by omega)).mono ?_; rw [HV.out]; rintro e w1 ⟨rfl, hb1⟩; obtain ⟨hc, hfz⟩ := bcell hb1)
  refine region_at fun R hR => ?_
  have hwb : Below w.heap.size w R := by rw [hR.out]; exact bTrans (bAlloc (Below.refl _ _) _) hb1
  have g0 := cell_regrown (show R.cell? ⟨w.heap.size, 0, none⟩ = some (.int .i64 id) by rw [hR.out]; exact bCell hb1 (cells_a rfl))
  have g1 := cell_regrown (show R.cell? ⟨w.heap.size, 1, none⟩ = some (.int .i64 4) by rw [hR.out]; exact bCell hb1 (cells_a rfl))
  have g2 := cell_regrown (show R.cell? ⟨w.heap.size, 2, none⟩ = some (.string fr) by rw [hR.out]; exact bCell hb1 (cells_a rfl))
  have g3 := cell_regrown (show R.cell? ⟨w.heap.size, 3, none⟩ = some (.string to) by rw [hR.out]; exact bCell hb1 (cells_a rfl))
  have g4 := cell_regrown (show R.cell? ⟨w.heap.size, 4, none⟩ = some (.int .i64 t) by rw [hR.out]; exact bCell hb1 (cells_a rfl))
  have g5 := cell_regrown (show R.cell? ⟨w.heap.size, 5, none⟩ = some (.int .i64 x) by rw [hR.out]; exact bCell hb1 (cells_a rfl))
  have g6 := cell_regrown (show R.cell? ⟨w.heap.size, 6, none⟩ = some (.int .i64 y) by rw [hR.out]; exact bCell hb1 (cells_a rfl))
  have g7 := cell_regrown (show R.cell? ⟨w.heap.size, 7, none⟩ = some (.int .i64 wt) by rw [hR.out]; exact bCell hb1 (cells_a rfl))
  have tR := (HT.out).below hwb
  have cV : ∀ d os, Calls Tryz.prog 68 #[.int .i64 4] (Go.Sort.grow (redrawn R d) os) fun e w2 => e = .returned (.string ⟨#[108, 111, 111, 112]⟩) ∧ ∃ p : Regrown, w2 = Go.Sort.grow (redrawn R p.d) p.os := fun d os => Calls.regrown_of (kindWord_4 _)
  have cW : ∀ d os, Calls Tryz.prog 42 #[.int .i64 id] (Go.Sort.grow (redrawn R d) os) fun e w2 => e = .returned (.string (itoaB id)) ∧ ∃ p : Regrown, w2 = Go.Sort.grow (redrawn R p.d) p.os := fun d os => Calls.regrown_of (impl_FormatInt_c id _ (by omega) (by omega) (tR.below (below_regrown R d os)))
  clear hR hc hfz tR hb1
  refine wp_region_quiet_below (by kernel_rfl) (by kernel_rfl) ?_
  repeat (go_big_quiet_step (first | exact cV _ _ | exact cW _ _))
  refine wpQuiet_nil ?_
  intro _ hw
  obtain ⟨⟨dq, osq⟩, hw⟩ := hw
  subst hw
  have hbq := bTrans hwb (below_regrown R dq osq)
  have h0 := hbq
  clear cV cW hwb
  go_wp2_with fail
  refine region_at fun W hW => ?_
  have hwc : Below w.heap.size w W := by rw [hW.out]; exact hbq
  have k0 := cell_regrown (show W.cell? ⟨w.heap.size, 0, none⟩ = some (.int .i64 id) by rw [hW.out]; exact g0 _ _)
  have k1 := cell_regrown (show W.cell? ⟨w.heap.size, 1, none⟩ = some (.int .i64 4) by rw [hW.out]; exact g1 _ _)
  have k2 := cell_regrown (show W.cell? ⟨w.heap.size, 2, none⟩ = some (.string fr) by rw [hW.out]; exact g2 _ _)
  have k3 := cell_regrown (show W.cell? ⟨w.heap.size, 3, none⟩ = some (.string to) by rw [hW.out]; exact g3 _ _)
  have k4 := cell_regrown (show W.cell? ⟨w.heap.size, 4, none⟩ = some (.int .i64 t) by rw [hW.out]; exact g4 _ _)
  have k5 := cell_regrown (show W.cell? ⟨w.heap.size, 5, none⟩ = some (.int .i64 x) by rw [hW.out]; exact g5 _ _)
  have k6 := cell_regrown (show W.cell? ⟨w.heap.size, 6, none⟩ = some (.int .i64 y) by rw [hW.out]; exact g6 _ _)
  have k7 := cell_regrown (show W.cell? ⟨w.heap.size, 7, none⟩ = some (.int .i64 wt) by rw [hW.out]; exact g7 _ _)
  have tR := (HT.out).below hwc
  have cV : ∀ d os, Calls Tryz.prog 69 #[vPose t x y] (Go.Sort.grow (redrawn W d) os) fun e w2 => e = .returned (.string (fmtPose t x y)) ∧ ∃ p : Regrown, w2 = Go.Sort.grow (redrawn W p.d) p.os := fun d os => Calls.regrown_of (impl_FormatPose_c t x y _ (tR.below (below_regrown W d os)))
  have cW : ∀ d os, Calls Tryz.prog 42 #[.int .i64 wt] (Go.Sort.grow (redrawn W d) os) fun e w2 => e = .returned (.string (itoaB wt)) ∧ ∃ p : Regrown, w2 = Go.Sort.grow (redrawn W p.d) p.os := fun d os => Calls.regrown_of (impl_FormatInt_c wt _ (by omega) (by omega) (tR.below (below_regrown W d os)))
  clear hW g0 g1 g2 g3 g4 g5 g6 g7 tR h0 hbq
  refine wp_region_quiet_below (by kernel_rfl) (by kernel_rfl) ?_
  repeat (go_big_quiet_step (first | exact cV _ _ | exact cW _ _))
  refine wpQuiet_nil ?_
  intro _ hw
  obtain ⟨⟨dq, osq⟩, hw⟩ := hw
  subst hw
  have hbq9 := bTrans hwc (below_regrown W dq osq)
  clear k0 k1 k2 k3 k4 k5 k6 k7 cV cW
  go_wp2
  go_ret
  exact ⟨by rw [hfin.out]; rfl, hbq9⟩
end Go.Proofs.YtebcdjpddoaajaaGreatDoor

/- The program's FormatFactor. -/
namespace Go.Proofs.YtebcdjpddoaajaaGreatDoor
open Go.RowKit
set_option linter.unusedVariables false
set_option linter.unusedSimpArgs false
set_option maxHeartbeats 1000000
set_option maxRecDepth 100000
theorem impl_FormatFactor_c (id kind : Int) (fr to : ByteArray) (t x y wt : Int) (w : World) (hf : fr.size ≤ 1048576) (ht : to.size ≤ 1048576) (hT : Tab w) :
    Calls Tryz.prog 43 #[vFactor id kind fr to t x y wt] w fun e w' => e = .returned (.string (fmtFac ⟨id, kind, fr, to, ⟨t, x, y⟩, wt⟩)) ∧ Below w.heap.size w w' := by
  cases hv : vldFactor ⟨id, kind, fr, to, ⟨t, x, y⟩, wt⟩
  · have hfin : Hid (fmtFac ⟨id, kind, fr, to, ⟨t, x, y⟩, wt⟩ = ⟨#[]⟩) := by simp [Hid, fmtFac, hv]
    have HV := Lib.hid hv
    clear hv
    go_enter Tryz.func43, Tryz.ntmps43
    go_wp2_with (go_at_call 66; refine (impl_IsValidFactor_c _ _ _ _ _ _ _ _ _ hf ht).mono ?_; rw [HV.out]; rintro e w1 ⟨rfl, hb1⟩; obtain ⟨hc, hfz⟩ := bcell hb1)
    go_ret
    exact ⟨by rw [hfin.out]; rfl, bTrans (bAlloc (Below.refl _ _) _) hb1⟩
  · obtain ⟨_, _, _, hk, _⟩ := vld_parts hv
    dsimp only at hk
    obtain rfl | rfl | rfl | rfl := hk
    · exact impl_FormatFactor_1 id fr to t x y wt w hv hT
    · exact impl_FormatFactor_2 id fr to t x y wt w hv hT
    · exact impl_FormatFactor_3 id fr to t x y wt w hv hT
    · exact impl_FormatFactor_4 id fr to t x y wt w hv hT
end Go.Proofs.YtebcdjpddoaajaaGreatDoor

/- An entry's text: its parts, its length. No program in sight. -/
namespace Go.Proofs.YtebcdjpddoaajaaGreatDoor
open Go.RowKit
set_option linter.unusedVariables false
set_option linter.unusedSimpArgs false
set_option maxHeartbeats 1000000
set_option maxRecDepth 100000
theorem facL_len {f : Factor} (h : vldFactor f = true) : (facL f).length ≤ 116 := by
  obtain ⟨p1, p2, p3, p4, p5, p6, p7⟩ := vld_parts h
  have h1 := kindL_len f.kind
  have h2 := itoa_len p1 (by omega) (by omega)
  have h3 := itoa_len p2 (by omega) (by omega)
  have h4 := pose_len p3
  have h5 : f.to.data.toList.length ≤ 8 := by rw [Array.length_toList]; rcases p7 with h | h <;> exact nm_size8 h
  have h6 : (frmL f.kind f.frm).length ≤ 9 := by
    unfold frmL
    split
    · decide
    · rename_i hk
      have := nm_size8 (p6 hk)
      have e : f.frm.data.toList.length ≤ 8 := by rw [Array.length_toList]; exact this
      simp only [List.length_append, List.length_cons, List.length_nil]; omega
  simp only [facL, List.length_append, List.length_cons]
  omega
theorem fmtFac_size (f : Factor) : (fmtFac f).size ≤ 116 := by
  unfold fmtFac
  split
  · rename_i h; rw [bsz]; exact facL_len h
  · decide
theorem fmtFac_data {f : Factor} (h : vldFactor f = true) : (fmtFac f).data.toList = facL f := by simp [fmtFac, h]
theorem entL_len {e : Entry} (h : vldEntry e = true) : (entL e).length ≤ 120 := by
  unfold vldEntry at h
  unfold entL
  split at h
  · rename_i hr
    simp only [Bool.and_eq_true] at h
    have := itoa_len h.1 (by omega) (by omega)
    rw [if_pos hr]
    simp only [List.length_append, List.length_cons, List.length_nil]; omega
  · rename_i hr
    simp only [Bool.and_eq_true] at h
    have := facL_len h.2
    rw [if_neg hr]
    simp only [List.length_append, List.length_cons, List.length_nil]; omega
theorem entSum_bound (e : Entry) (p : Int) : 0 ≤ entSum e p ∧ entSum e p ≤ 65520 := chk_bound _
theorem entT_size {e : Entry} (h : vldEntry e = true) (p : Int) : (entT e p).size ≤ 144 := by
  have h1 := entL_len h
  have h2 := entSum_bound e p
  have h3 := Lib.itoa_length_le (entSum e p) (by omega) (by omega)
  unfold entT
  rw [bsz]
  simp only [List.length_append, List.length_cons, List.length_nil]; omega
theorem entT_pos (e : Entry) (p : Int) : (entT e p).toList.isEmpty = false := by
  unfold entT
  rw [ByteArray.toList_mk]
  cases entL e <;> rfl
/-- the text of an entry, as both FormatEntry put it together -/
theorem ent_fin {e : Entry} {p n : Int} {s a0 a1 b0 b1 b2 : ByteArray} (hs : s.data.toList = entL e) (h0 : itoaB p ++ ⟨#[32]⟩ = a0) (h1 : a0 ++ s = a1) (hn : chk a1 = n) (h2 : s ++ ⟨#[32, 35]⟩ = b0) (h3 : b0 ++ itoaB n = b1) (h4 : b1 ++ ⟨#[10]⟩ = b2) :
    b2 = entT e p ∧ n = entSum e p := by
  have hN : n = entSum e p := by
    rw [← hn, entSum]
    congr 1
    rw [← h1, ← h0]
    apply bext
    simp [itoaB, ByteArray.data_append, hs]
  refine ⟨?_, hN⟩
  rw [← h4, ← h3, ← h2, hN]
  apply bext
  simp [itoaB, ByteArray.data_append, hs, entT]
end Go.Proofs.YtebcdjpddoaajaaGreatDoor

/- The program's FormatEntry. -/
namespace Go.Proofs.YtebcdjpddoaajaaGreatDoor
open Go.RowKit
set_option linter.unusedVariables false
set_option linter.unusedSimpArgs false
set_option maxHeartbeats 1000000
set_option maxRecDepth 100000
theorem impl_FormatEntry_false (eid id kind : Int) (fr to : ByteArray) (t x y wt p : Int) (w : World) (hwe : -9223372036854775808 ≤ eid ∧ eid ≤ 9223372036854775807) (hf : fr.size ≤ 1048576) (ht : to.size ≤ 1048576) (hv : vldEntry ⟨false, eid, ⟨id, kind, fr, to, ⟨t, x, y⟩, wt⟩⟩ = true) (hp : inR p 0 65520 = true) (hT : Tab w) :
    Calls Tryz.prog 15 #[vEntry false eid id kind fr to t x y wt, .int .i64 p] w fun e w' => e = .returned (.tuple #[.string (entT ⟨false, eid, ⟨id, kind, fr, to, ⟨t, x, y⟩, wt⟩⟩ p), .int .i64 (entSum ⟨false, eid, ⟨id, kind, fr, to, ⟨t, x, y⟩, wt⟩⟩ p)]) ∧ Below w.heap.size w w' := by
  have HV := Lib.hid hv
  have HP := Lib.hid hp
  have HT := Lib.hid hT
  clear hT
  obtain ⟨p0, p1⟩ := inR_iff.1 hp
  obtain ⟨we0, we1⟩ := hwe
  have zf0 := fmtFac_size ⟨id, kind, fr, to, ⟨t, x, y⟩, wt⟩
  generalize hF : fmtFac ⟨id, kind, fr, to, ⟨t, x, y⟩, wt⟩ = F at zf0
  have HF := Lib.hid hF
  clear hF
  obtain ⟨sr, er, zr, cr⟩ := cat ⟨#[114, 101, 109, 111, 118, 101, 32]⟩ (itoaB eid) 7 21 (by decide) (itoaB_size (by omega) (by omega)) (by omega)
  obtain ⟨s0, e0, z0, c0⟩ := cat ⟨#[97, 100, 100, 32]⟩ F 4 116 (by decide) zf0 (by omega)
  have hs : s0.data.toList = entL ⟨false, eid, ⟨id, kind, fr, to, ⟨t, x, y⟩, wt⟩⟩ := by
    have hvf : vldFactor ⟨id, kind, fr, to, ⟨t, x, y⟩, wt⟩ = true := by simp [vldEntry] at hv; exact hv.2
    rw [← e0.out, ← HF.out]
    simp [entL, ByteArray.data_append, fmtFac_data hvf]
  have zs : s0.size ≤ 120 := by omega
  obtain ⟨a0, f0, y0, d0⟩ := cat (itoaB p) ⟨#[32]⟩ 21 1 (itoaB_size (by omega) (by omega)) (by decide) (by omega)
  obtain ⟨a1, f1, y1, d1⟩ := cat a0 s0 22 120 y0 zs (by omega)
  obtain ⟨n0, n1⟩ := chk_bound a1
  generalize hn : chk a1 = n at n0 n1
  have HN := Lib.hid hn
  obtain ⟨b0, g0, x0, q0⟩ := cat s0 ⟨#[32, 35]⟩ 120 2 zs (by decide) (by omega)
  obtain ⟨b1, g1, x1, q1⟩ := cat b0 (itoaB n) 122 21 x0 (itoaB_size (by omega) (by omega)) (by omega)
  obtain ⟨b2, g2, x2, q2⟩ := cat b1 ⟨#[10]⟩ 143 1 x1 (by decide) (by omega)
  obtain ⟨r1, r2⟩ := ent_fin hs f0.out f1.out hn g0.out g1.out g2.out
  rw [← r1, ← r2]
  clear hn r1 r2 hs hv hp z0 zf0 zs x0 x1 x2 y0
  go_enter Tryz.func15, Tryz.ntmps15
  go_wp2_with (first
    | (go_at_call 41; refine (impl_IsValidEntry_c _ _ _ _ _ _ _ _ _ _ _ hf ht).mono ?_; rw [HV.out]; rintro e w1 ⟨rfl, hb1⟩; have k1 := bBox hb1 w.heap.size (by first | (simp; done) | omega); have hz1 : w.heap.size + 1 ≤ w1.heap.size := (by first | exact bsz1 hb1 | (have := hb1.size; omega)); have B1 : Below w.heap.size w w1 := bTrans (by first | with_reducible assumption | exact bAlloc (Below.refl _ _) _) hb1)
    | (go_at_call 43; refine (impl_FormatFactor_c _ _ _ _ _ _ _ _ _ hf ht (HT.out.below (by with_reducible assumption))).mono ?_; rw [HF.out]; rintro e w3 ⟨rfl, hb3⟩; have k3 := bBox hb3 w.heap.size (by first | (simp; done) | omega); have hz3 : w.heap.size + 1 ≤ w3.heap.size := (by first | exact bsz1 hb3 | (have := hb3.size; omega)); have B3 : Below w.heap.size w w3 := bTrans (by first | with_reducible assumption | exact bAlloc (Below.refl _ _) _) hb3)
    | (go_at_call 42; refine (impl_FormatInt_c _ _ (by omega) (by omega) (HT.out.below (by with_reducible assumption))).mono ?_; rintro e w4 ⟨rfl, hb4⟩; have k4 := bBox hb4 w.heap.size (by first | (simp; done) | omega); have hz4 : w.heap.size + 1 ≤ w4.heap.size := (by first | exact bsz1 hb4 | (have := hb4.size; omega)); have B4 : Below w.heap.size w w4 := bTrans (by first | with_reducible assumption | exact bAlloc (Below.refl _ _) _) hb4)
    | (go_at_call 44; refine (impl_Checksum_c _ _ (by omega)).mono ?_; rw [HN.out]; rintro e w5 ⟨rfl, rfl⟩))
  go_ret2
  exact ⟨rfl, by with_reducible assumption⟩
theorem impl_FormatEntry_true (eid id kind : Int) (fr to : ByteArray) (t x y wt p : Int) (w : World) (hwe : -9223372036854775808 ≤ eid ∧ eid ≤ 9223372036854775807) (hf : fr.size ≤ 1048576) (ht : to.size ≤ 1048576) (hv : vldEntry ⟨true, eid, ⟨id, kind, fr, to, ⟨t, x, y⟩, wt⟩⟩ = true) (hp : inR p 0 65520 = true) (hT : Tab w) :
    Calls Tryz.prog 15 #[vEntry true eid id kind fr to t x y wt, .int .i64 p] w fun e w' => e = .returned (.tuple #[.string (entT ⟨true, eid, ⟨id, kind, fr, to, ⟨t, x, y⟩, wt⟩⟩ p), .int .i64 (entSum ⟨true, eid, ⟨id, kind, fr, to, ⟨t, x, y⟩, wt⟩⟩ p)]) ∧ Below w.heap.size w w' := by
  have HV := Lib.hid hv
  have HP := Lib.hid hp
  have HT := Lib.hid hT
  clear hT
  obtain ⟨p0, p1⟩ := inR_iff.1 hp
  obtain ⟨we0, we1⟩ := hwe
  have zf0 := fmtFac_size ⟨id, kind, fr, to, ⟨t, x, y⟩, wt⟩
  generalize hF : fmtFac ⟨id, kind, fr, to, ⟨t, x, y⟩, wt⟩ = F at zf0
  have HF := Lib.hid hF
  clear hF
  obtain ⟨sa, ea, za, ca⟩ := cat ⟨#[97, 100, 100, 32]⟩ F 4 116 (by decide) zf0 (by omega)
  obtain ⟨s0, e0, z0, c0⟩ := cat ⟨#[114, 101, 109, 111, 118, 101, 32]⟩ (itoaB eid) 7 21 (by decide) (itoaB_size (by omega) (by omega)) (by omega)
  have hs : s0.data.toList = entL ⟨true, eid, ⟨id, kind, fr, to, ⟨t, x, y⟩, wt⟩⟩ := by
    rw [← e0.out]
    simp [entL, itoaB, ByteArray.data_append]
  have zs : s0.size ≤ 120 := by omega
  obtain ⟨a0, f0, y0, d0⟩ := cat (itoaB p) ⟨#[32]⟩ 21 1 (itoaB_size (by omega) (by omega)) (by decide) (by omega)
  obtain ⟨a1, f1, y1, d1⟩ := cat a0 s0 22 120 y0 zs (by omega)
  obtain ⟨n0, n1⟩ := chk_bound a1
  generalize hn : chk a1 = n at n0 n1
  have HN := Lib.hid hn
  obtain ⟨b0, g0, x0, q0⟩ := cat s0 ⟨#[32, 35]⟩ 120 2 zs (by decide) (by omega)
  obtain ⟨b1, g1, x1, q1⟩ := cat b0 (itoaB n) 122 21 x0 (itoaB_size (by omega) (by omega)) (by omega)
  obtain ⟨b2, g2, x2, q2⟩ := cat b1 ⟨#[10]⟩ 143 1 x1 (by decide) (by omega)
  obtain ⟨r1, r2⟩ := ent_fin hs f0.out f1.out hn g0.out g1.out g2.out
  rw [← r1, ← r2]
  clear hn r1 r2 hs hv hp z0 zf0 zs x0 x1 x2 y0
  go_enter Tryz.func15, Tryz.ntmps15
  go_wp2_with (first
    | (go_at_call 41; refine (impl_IsValidEntry_c _ _ _ _ _ _ _ _ _ _ _ hf ht).mono ?_; rw [HV.out]; rintro e w1 ⟨rfl, hb1⟩; have k1 := bBox hb1 w.heap.size (by first | (simp; done) | omega); have hz1 : w.heap.size + 1 ≤ w1.heap.size := (by first | exact bsz1 hb1 | (have := hb1.size; omega)); have B1 : Below w.heap.size w w1 := bTrans (by first | with_reducible assumption | exact bAlloc (Below.refl _ _) _) hb1)
    | (go_at_call 43; refine (impl_FormatFactor_c _ _ _ _ _ _ _ _ _ hf ht (HT.out.below (by with_reducible assumption))).mono ?_; rw [HF.out]; rintro e w3 ⟨rfl, hb3⟩; have k3 := bBox hb3 w.heap.size (by first | (simp; done) | omega); have hz3 : w.heap.size + 1 ≤ w3.heap.size := (by first | exact bsz1 hb3 | (have := hb3.size; omega)); have B3 : Below w.heap.size w w3 := bTrans (by first | with_reducible assumption | exact bAlloc (Below.refl _ _) _) hb3)
    | (go_at_call 42; refine (impl_FormatInt_c _ _ (by omega) (by omega) (HT.out.below (by with_reducible assumption))).mono ?_; rintro e w4 ⟨rfl, hb4⟩; have k4 := bBox hb4 w.heap.size (by first | (simp; done) | omega); have hz4 : w.heap.size + 1 ≤ w4.heap.size := (by first | exact bsz1 hb4 | (have := hb4.size; omega)); have B4 : Below w.heap.size w w4 := bTrans (by first | with_reducible assumption | exact bAlloc (Below.refl _ _) _) hb4)
    | (go_at_call 44; refine (impl_Checksum_c _ _ (by omega)).mono ?_; rw [HN.out]; rintro e w5 ⟨rfl, rfl⟩))
  go_ret2
  exact ⟨rfl, by with_reducible assumption⟩
theorem impl_FormatEntry_bad (rm : Bool) (eid id kind : Int) (fr to : ByteArray) (t x y wt p : Int) (w : World) (hf : fr.size ≤ 1048576) (ht : to.size ≤ 1048576) (hv : vldEntry ⟨rm, eid, ⟨id, kind, fr, to, ⟨t, x, y⟩, wt⟩⟩ = false) :
    Calls Tryz.prog 15 #[vEntry rm eid id kind fr to t x y wt, .int .i64 p] w fun e w' => e = .returned (.tuple #[.string ⟨#[]⟩, .int .i64 0]) ∧ Below w.heap.size w w' := by
  have HV := Lib.hid hv
  have HP : Hid (inR p 0 65520 = inR p 0 65520) := rfl
  clear hv
  go_enter Tryz.func15, Tryz.ntmps15
  go_wp2_with (first | (go_at_call 41; refine (impl_IsValidEntry_c _ _ _ _ _ _ _ _ _ _ _ hf ht).mono ?_; rw [HV.out]; rintro e w1 ⟨rfl, hb1⟩; have B1 : Below w.heap.size w w1 := bTrans (bAlloc (Below.refl _ _) _) hb1))
  all_goals (go_ret2; exact ⟨rfl, by with_reducible assumption⟩)
theorem impl_FormatEntry_far (rm : Bool) (eid id kind : Int) (fr to : ByteArray) (t x y wt p : Int) (w : World) (hf : fr.size ≤ 1048576) (ht : to.size ≤ 1048576) (hv : vldEntry ⟨rm, eid, ⟨id, kind, fr, to, ⟨t, x, y⟩, wt⟩⟩ = true) (hp : inR p 0 65520 = false) :
    Calls Tryz.prog 15 #[vEntry rm eid id kind fr to t x y wt, .int .i64 p] w fun e w' => e = .returned (.tuple #[.string ⟨#[]⟩, .int .i64 0]) ∧ Below w.heap.size w w' := by
  have HV := Lib.hid hv
  have HP := Lib.hid hp
  have hq : decide (p < 0) = true ∨ (decide (p < 0) = false ∧ decide (65520 < p) = true) := by
    have : ¬ (0 ≤ p ∧ p ≤ 65520) := by simpa [inR] using hp
    simp; omega
  clear hv hp
  rcases hq with hq | ⟨hq, hq2⟩
  all_goals
    go_enter Tryz.func15, Tryz.ntmps15
    go_wp2_with (first | (go_at_call 41; refine (impl_IsValidEntry_c _ _ _ _ _ _ _ _ _ _ _ hf ht).mono ?_; rw [HV.out]; rintro e w1 ⟨rfl, hb1⟩; have B1 : Below w.heap.size w w1 := bTrans (bAlloc (Below.refl _ _) _) hb1))
    all_goals (go_ret2; exact ⟨rfl, by with_reducible assumption⟩)
theorem impl_FormatEntry_c (rm : Bool) (eid id kind : Int) (fr to : ByteArray) (t x y wt p : Int) (w : World) (hwe : -9223372036854775808 ≤ eid ∧ eid ≤ 9223372036854775807) (hf : fr.size ≤ 1048576) (ht : to.size ≤ 1048576) (hT : Tab w) :
    Calls Tryz.prog 15 #[vEntry rm eid id kind fr to t x y wt, .int .i64 p] w fun e w' => e = .returned (.tuple #[.string (fmtEnt ⟨rm, eid, ⟨id, kind, fr, to, ⟨t, x, y⟩, wt⟩⟩ p).1, .int .i64 (fmtEnt ⟨rm, eid, ⟨id, kind, fr, to, ⟨t, x, y⟩, wt⟩⟩ p).2]) ∧ Below w.heap.size w w' := by
  cases hv : vldEntry ⟨rm, eid, ⟨id, kind, fr, to, ⟨t, x, y⟩, wt⟩⟩
  · rw [show fmtEnt ⟨rm, eid, ⟨id, kind, fr, to, ⟨t, x, y⟩, wt⟩⟩ p = (⟨#[]⟩, 0) by simp [fmtEnt, hv]]
    exact impl_FormatEntry_bad rm eid id kind fr to t x y wt p w hf ht hv
  cases hp : inR p 0 65520
  · rw [show fmtEnt ⟨rm, eid, ⟨id, kind, fr, to, ⟨t, x, y⟩, wt⟩⟩ p = (⟨#[]⟩, 0) by simp [fmtEnt, hp]]
    exact impl_FormatEntry_far rm eid id kind fr to t x y wt p w hf ht hv hp
  rw [show fmtEnt ⟨rm, eid, ⟨id, kind, fr, to, ⟨t, x, y⟩, wt⟩⟩ p = (entT ⟨rm, eid, ⟨id, kind, fr, to, ⟨t, x, y⟩, wt⟩⟩ p, entSum ⟨rm, eid, ⟨id, kind, fr, to, ⟨t, x, y⟩, wt⟩⟩ p) by simp [fmtEnt, hv, hp]]
  cases rm
  · exact impl_FormatEntry_false eid id kind fr to t x y wt p w hwe hf ht hv hp hT
  · exact impl_FormatEntry_true eid id kind fr to t x y wt p w hwe hf ht hv hp hT
end Go.Proofs.YtebcdjpddoaajaaGreatDoor
