/- Texts of this proof, one behind the other: Poses, OnceD. -/
import Derived.Deep.RegionLaw
import Derived.BigRegion
import Derived.Test.YtebcdjpddoaajaaDoorGr3
import Derived.Test.YtebcdjpddoaajaaDoorGr46
import Derived.Test.YtebcdjpddoaajaaDoorGr50
/- Poses near the origin: RotateXY, l05Compose, Compose, Inverse, Between of the reference: where their answers lie. -/
namespace Go.Proofs.YtebcdjpddoaajaaDoor
open Go.RowKit
set_option linter.unusedVariables false
set_option linter.unusedSimpArgs false
set_option maxHeartbeats 1000000
set_option maxRecDepth 100000
theorem RotateXY_c (M t x y : Int) (h : nearP M t x y) (hM : M ≤ 100000) (w : World) :
    Calls Tryd.prog 127 #[.int .i64 x, .int .i64 y, .int .i64 t] w fun e w' => ∃ a b, e = .returned (.tuple #[.int .i64 a, .int .i64 b]) ∧ (-M ≤ a ∧ a ≤ M ∧ -M ≤ b ∧ b ≤ M) ∧ Below w.heap.size w w' := by
  have HV := Lib.hid (h.vld (by omega))
  obtain ⟨t0, t1, h1, h2, h3, h4⟩ := h
  go_enter Tryd.func127, Tryd.ntmps127
  go_wp2_with (go_at_call 126; refine (spec_IsValidPose_c _ _ _ _).mono ?_; rw [HV.out]; rintro e w1 ⟨rfl, hb1⟩)
  go_loopw [0, 1, 8] (fun p q i wr => ∃ (a b : Int) (k : Nat), p = .int .i64 a ∧ q = .int .i64 b ∧ i = .int .i64 (k : Int) ∧ (k : Int) ≤ t ∧ -M ≤ a ∧ a ≤ M ∧ -M ≤ b ∧ b ≤ M ∧ Below w.heap.size w wr) (fun _ _ i _ => t.toNat - (intOf i).toNat)
  case atStart => exact ⟨x, y, 0, rfl, rfl, rfl, by omega, h1, h2, h3, h4, hb1⟩
  case round =>
    obtain ⟨a, b, k, rfl, rfl, rfl, hk, a0, a1, b0, b1, hb⟩ := hrel
    by_cases hlt : (k : Int) < t
    · go_wp2
      exact ⟨⟨-b, a, k + 1, rfl, rfl, by simp, by omega, by omega, by omega, a0, a1, hb⟩, by simp only [intOf]; omega⟩
    · go_wp2
      go_ret2
      exact ⟨a, b, rfl, ⟨a0, a1, b0, b1⟩, hb⟩
theorem frozen_g (w : World) (g : Nat) (hg : g = w.heap.size) (cs : Array Value) (t : TypeId) (k : Nat) : (w.alloc (.cells cs t)).frozen? ⟨g, k, none⟩ = false := by subst hg; exact frozen_a w cs t k
/-- cells of boxes made one behind the other -/
theorem two_b (w : World) (cs cs2 : Array Value) (t t2 : TypeId) (k : Nat) (v : Value) (h : cs[k]? = some v) : ((w.alloc (.cells cs t)).alloc (.cells cs2 t2)).cell? ⟨w.heap.size, k, none⟩ = some v := bCell (bAlloc (Below.refl _ _) _) (cells_b h)
theorem next_b (w : World) (o : Obj) (g : Nat) (hg : g = w.heap.size + 1) (cs : Array Value) (t : TypeId) (k : Nat) (v : Value) (h : cs[k]? = some v) : ((w.alloc o).alloc (.cells cs t)).cell? ⟨g, k, none⟩ = some v := by
  have e : g = (w.alloc o).heap.size := by simp [hg]
  subst e
  exact cells_b h
theorem l05Compose_c (M N t1 x1 y1 t2 x2 y2 : Int) (h1 : nearP M t1 x1 y1) (h2 : nearP N t2 x2 y2) (hM : M ≤ 100000) (hN : N ≤ 100000) (w : World) :
    Calls Tryd.prog 111 #[vPose t1 x1 y1, vPose t2 x2 y2] w fun e w' => ∃ t x y, e = .returned (.tuple #[vPose t x y, .bool true]) ∧ nearP (M + N) t x y ∧ Below w.heap.size w w' := by
  have HV1 := Lib.hid (h1.vld (by omega))
  have HV2 := Lib.hid (h2.vld (by omega))
  obtain ⟨p0', p1', p2', p3', p4', p5'⟩ := h1
  obtain ⟨q0', q1', q2', q3', q4', q5'⟩ := h2
  have hR : nearP N t1 x2 y2 := ⟨p0', p1', q2', q3', q4', q5'⟩
  have HR := Lib.hid hR
  clear hR
  go_enter Tryd.func111, Tryd.ntmps111
  go_wp2_with fail
  refine Calls.mono (spec_IsValidPose_c _ _ _ _) ?_
  rw [HV1.out]
  rintro e w1 ⟨rfl, hb1⟩
  have B1 : Below w.heap.size w w1 := bTrans (bAlloc (bAlloc (bAlloc (Below.refl _ _) _) _) _) hb1
  have p0 : w1.cell? ⟨w.heap.size, 0, none⟩ = some (.int .i64 t1) := bCell hb1 (bCell (bAlloc (Below.refl _ _) _) (two_b _ _ _ _ _ _ _ rfl))
  have p1 : w1.cell? ⟨w.heap.size, 1, none⟩ = some (.int .i64 x1) := bCell hb1 (bCell (bAlloc (Below.refl _ _) _) (two_b _ _ _ _ _ _ _ rfl))
  have p2 : w1.cell? ⟨w.heap.size, 2, none⟩ = some (.int .i64 y1) := bCell hb1 (bCell (bAlloc (Below.refl _ _) _) (two_b _ _ _ _ _ _ _ rfl))
  have pz : w.heap.size < w1.heap.size := cell_lt p0
  have q0 : w1.cell? ⟨w.heap.size + 1, 0, none⟩ = some (.int .i64 t2) := bCell hb1 (bCell (bAlloc (Below.refl _ _) _) (next_b _ _ _ rfl _ _ _ _ rfl))
  have q1 : w1.cell? ⟨w.heap.size + 1, 1, none⟩ = some (.int .i64 x2) := bCell hb1 (bCell (bAlloc (Below.refl _ _) _) (next_b _ _ _ rfl _ _ _ _ rfl))
  have q2 : w1.cell? ⟨w.heap.size + 1, 2, none⟩ = some (.int .i64 y2) := bCell hb1 (bCell (bAlloc (Below.refl _ _) _) (next_b _ _ _ rfl _ _ _ _ rfl))
  have qz : w.heap.size + 1 < w1.heap.size := cell_lt q0
  have r0 : w1.cell? ⟨w.heap.size + 1 + 1, 0, none⟩ = some (.int .i64 0) := bCell hb1 (next_b _ _ _ (by simp) _ _ _ _ rfl)
  have r1 : w1.cell? ⟨w.heap.size + 1 + 1, 1, none⟩ = some (.int .i64 0) := bCell hb1 (next_b _ _ _ (by simp) _ _ _ _ rfl)
  have r2 : w1.cell? ⟨w.heap.size + 1 + 1, 2, none⟩ = some (.int .i64 0) := bCell hb1 (next_b _ _ _ (by simp) _ _ _ _ rfl)
  have rf : ∀ o, w1.frozen? ⟨w.heap.size + 1 + 1, o, none⟩ = false := fun o => (bBoxF hb1 (w.heap.size + 1 + 1) (by first | (simp; done) | (simp; omega)) o).trans (frozen_g _ _ (by simp) _ _ _)
  have rz : w.heap.size + 1 + 1 < w1.heap.size := cell_lt r0
  go_wp2_with fail
  refine Calls.mono (spec_IsValidPose_c _ _ _ _) ?_
  rw [HV2.out]
  rintro e w2 ⟨rfl, hb2⟩
  have B2 := bTrans B1 hb2
  have p0 : w2.cell? ⟨w.heap.size, 0, none⟩ = some (.int .i64 t1) := bCell hb2 (p0)
  have p1 : w2.cell? ⟨w.heap.size, 1, none⟩ = some (.int .i64 x1) := bCell hb2 (p1)
  have p2 : w2.cell? ⟨w.heap.size, 2, none⟩ = some (.int .i64 y1) := bCell hb2 (p2)
  have pz : w.heap.size < w2.heap.size := cell_lt p0
  have q0 : w2.cell? ⟨w.heap.size + 1, 0, none⟩ = some (.int .i64 t2) := bCell hb2 (q0)
  have q1 : w2.cell? ⟨w.heap.size + 1, 1, none⟩ = some (.int .i64 x2) := bCell hb2 (q1)
  have q2 : w2.cell? ⟨w.heap.size + 1, 2, none⟩ = some (.int .i64 y2) := bCell hb2 (q2)
  have qz : w.heap.size + 1 < w2.heap.size := cell_lt q0
  have r0 : w2.cell? ⟨w.heap.size + 1 + 1, 0, none⟩ = some (.int .i64 0) := bCell hb2 (r0)
  have r1 : w2.cell? ⟨w.heap.size + 1 + 1, 1, none⟩ = some (.int .i64 0) := bCell hb2 (r1)
  have r2 : w2.cell? ⟨w.heap.size + 1 + 1, 2, none⟩ = some (.int .i64 0) := bCell hb2 (r2)
  have rf : ∀ o, w2.frozen? ⟨w.heap.size + 1 + 1, o, none⟩ = false := fun o => (bBoxF hb2 (w.heap.size + 1 + 1) (rz) o).trans (rf o)
  have rz : w.heap.size + 1 + 1 < w2.heap.size := cell_lt r0
  clear B1 hb1 hb2
  go_wp2_with fail
  refine Calls.mono (RotateXY_c N t1 x2 y2 HR.out hN _) ?_
  rintro e w3 ⟨a, b, rfl, ⟨a0, a1, b0, b1⟩, hb3⟩
  have B3 := bTrans B2 hb3
  have p0 : w3.cell? ⟨w.heap.size, 0, none⟩ = some (.int .i64 t1) := bCell hb3 (p0)
  have p1 : w3.cell? ⟨w.heap.size, 1, none⟩ = some (.int .i64 x1) := bCell hb3 (p1)
  have p2 : w3.cell? ⟨w.heap.size, 2, none⟩ = some (.int .i64 y1) := bCell hb3 (p2)
  have pz : w.heap.size < w3.heap.size := cell_lt p0
  have q0 : w3.cell? ⟨w.heap.size + 1, 0, none⟩ = some (.int .i64 t2) := bCell hb3 (q0)
  have q1 : w3.cell? ⟨w.heap.size + 1, 1, none⟩ = some (.int .i64 x2) := bCell hb3 (q1)
  have q2 : w3.cell? ⟨w.heap.size + 1, 2, none⟩ = some (.int .i64 y2) := bCell hb3 (q2)
  have qz : w.heap.size + 1 < w3.heap.size := cell_lt q0
  have r0 : w3.cell? ⟨w.heap.size + 1 + 1, 0, none⟩ = some (.int .i64 0) := bCell hb3 (r0)
  have r1 : w3.cell? ⟨w.heap.size + 1 + 1, 1, none⟩ = some (.int .i64 0) := bCell hb3 (r1)
  have r2 : w3.cell? ⟨w.heap.size + 1 + 1, 2, none⟩ = some (.int .i64 0) := bCell hb3 (r2)
  have rf : ∀ o, w3.frozen? ⟨w.heap.size + 1 + 1, o, none⟩ = false := fun o => (bBoxF hb3 (w.heap.size + 1 + 1) (rz) o).trans (rf o)
  have rz : w.heap.size + 1 + 1 < w3.heap.size := cell_lt r0
  have hres : nearP (M + N) ((t1 + t2) % 4) (x1 + a) (y1 + b) := ⟨by omega, by omega, by omega, by omega, by omega, by omega⟩
  have HRES := Lib.hid hres
  have HV3 := Lib.hid (hres.vld (by omega))
  clear B2 hb3 hres HR
  go_wp2_with fail
  refine Calls.mono (spec_IsValidPose_c _ _ _ _) ?_
  rw [HV3.out]
  rintro e w4 ⟨rfl, hb4⟩
  have B4 : Below w.heap.size w w4 := bTrans (bAlloc B3 _) hb4
  have s0 : w4.cell? ⟨w3.heap.size, 0, none⟩ = some (.int .i64 ((t1 + t2) % 4)) := bCell hb4 (cells_b rfl)
  have s1 : w4.cell? ⟨w3.heap.size, 1, none⟩ = some (.int .i64 (x1 + a)) := bCell hb4 (cells_b rfl)
  have s2 : w4.cell? ⟨w3.heap.size, 2, none⟩ = some (.int .i64 (y1 + b)) := bCell hb4 (cells_b rfl)
  have u0 : w4.cell? ⟨w.heap.size + 1 + 1, 0, none⟩ = some (.int .i64 0) := bCell hb4 (bCell (bAlloc (Below.refl _ _) _) r0)
  have u1 : w4.cell? ⟨w.heap.size + 1 + 1, 1, none⟩ = some (.int .i64 0) := bCell hb4 (bCell (bAlloc (Below.refl _ _) _) r1)
  have u2 : w4.cell? ⟨w.heap.size + 1 + 1, 2, none⟩ = some (.int .i64 0) := bCell hb4 (bCell (bAlloc (Below.refl _ _) _) r2)
  have uf : ∀ o, w4.frozen? ⟨w.heap.size + 1 + 1, o, none⟩ = false := fun o => (bBoxF hb4 (w.heap.size + 1 + 1) (by simp; omega) o).trans (frozen_al rz (rf o))
  clear p0 p1 p2 pz q0 q1 q2 qz r0 r1 r2 rf B3
  go_wp2_with fail
  refine bodyPost_ret (v := .tuple #[vPose ((t1 + t2) % 4) (x1 + a) (y1 + b), .bool true]) (by simp [*, results, Tryd.results111, go_sem]) rfl ⟨_, _, _, rfl, HRES.out, ?_⟩
  exact bSet (bSet (bSet B4 (by simp; omega) _) (by simp; omega) _) (by simp; omega) _
theorem Compose_c (M N t1 x1 y1 t2 x2 y2 : Int) (h1 : nearP M t1 x1 y1) (h2 : nearP N t2 x2 y2) (hM : M ≤ 100000) (hN : N ≤ 100000) (w : World) :
    Calls Tryd.prog 85 #[vPose t1 x1 y1, vPose t2 x2 y2] w fun e w' => ∃ t x y, e = .returned (vPose t x y) ∧ nearP (M + N) t x y ∧ Below w.heap.size w w' := by
  have H1 := Lib.hid h1
  have H2 := Lib.hid h2
  clear h1 h2
  go_enter Tryd.func85, Tryd.ntmps85
  go_wp2_with fail
  refine Calls.mono (l05Compose_c M N _ _ _ _ _ _ H1.out H2.out hM hN _) ?_
  rintro e w1 ⟨t, x, y, rfl, hp, hb1⟩
  have B1 : Below w.heap.size w w1 := bTrans (bAlloc (bAlloc (bAlloc (Below.refl _ _) _) _) _) hb1
  have r0 : w1.cell? ⟨w.heap.size + 1 + 1, 0, none⟩ = some (.int .i64 0) := bCell hb1 (next_b _ _ _ (by simp) _ _ _ _ rfl)
  have r1 : w1.cell? ⟨w.heap.size + 1 + 1, 1, none⟩ = some (.int .i64 0) := bCell hb1 (next_b _ _ _ (by simp) _ _ _ _ rfl)
  have r2 : w1.cell? ⟨w.heap.size + 1 + 1, 2, none⟩ = some (.int .i64 0) := bCell hb1 (next_b _ _ _ (by simp) _ _ _ _ rfl)
  have rf : ∀ o, w1.frozen? ⟨w.heap.size + 1 + 1, o, none⟩ = false := fun o => (bBoxF hb1 (w.heap.size + 1 + 1) (by first | (simp; done) | (simp; omega)) o).trans (frozen_g _ _ (by simp) _ _ _)
  have rz : w.heap.size + 1 + 1 < w1.heap.size := cell_lt r0
  have HP := Lib.hid hp
  clear hp hb1 H1 H2
  go_wp2_with fail
  refine bodyPost_ret (v := vPose t x y) (by simp [*, results, Tryd.results85, go_sem]) rfl ⟨_, _, _, rfl, HP.out, ?_⟩
  repeat (first | with_reducible exact B1 | with_reducible refine bAlloc ?_ _ | ((with_reducible refine bSet ?_ ?_ _); rotate_left; (first | (simp; done) | (simp; omega) | simp | omega)))
theorem Inverse_c (M t1 x1 y1 : Int) (h1 : nearP M t1 x1 y1) (hM : M ≤ 100000) (w : World) :
    Calls Tryd.prog 112 #[vPose t1 x1 y1] w fun e w' => ∃ t x y, e = .returned (vPose t x y) ∧ nearP M t x y ∧ Below w.heap.size w w' := by
  have HV1 := Lib.hid (h1.vld (by omega))
  obtain ⟨p0', p1', p2', p3', p4', p5'⟩ := h1
  have hR : nearP M ((-t1) % 4) (-x1) (-y1) := ⟨by omega, by omega, by omega, by omega, by omega, by omega⟩
  have HR := Lib.hid hR
  clear hR
  go_enter Tryd.func112, Tryd.ntmps112
  go_wp2_with fail
  refine Calls.mono (spec_IsValidPose_c _ _ _ _) ?_
  rw [HV1.out]
  rintro e w1 ⟨rfl, hb1⟩
  have B1 : Below w.heap.size w w1 := bTrans (bAlloc (bAlloc (Below.refl _ _) _) _) hb1
  have p0 : w1.cell? ⟨w.heap.size, 0, none⟩ = some (.int .i64 t1) := bCell hb1 (two_b _ _ _ _ _ _ _ rfl)
  have p1 : w1.cell? ⟨w.heap.size, 1, none⟩ = some (.int .i64 x1) := bCell hb1 (two_b _ _ _ _ _ _ _ rfl)
  have p2 : w1.cell? ⟨w.heap.size, 2, none⟩ = some (.int .i64 y1) := bCell hb1 (two_b _ _ _ _ _ _ _ rfl)
  have r0 : w1.cell? ⟨w.heap.size + 1, 0, none⟩ = some (.int .i64 0) := bCell hb1 (next_b _ _ _ rfl _ _ _ _ rfl)
  have r1 : w1.cell? ⟨w.heap.size + 1, 1, none⟩ = some (.int .i64 0) := bCell hb1 (next_b _ _ _ rfl _ _ _ _ rfl)
  have r2 : w1.cell? ⟨w.heap.size + 1, 2, none⟩ = some (.int .i64 0) := bCell hb1 (next_b _ _ _ rfl _ _ _ _ rfl)
  have rf : ∀ o, w1.frozen? ⟨w.heap.size + 1, o, none⟩ = false := fun o => (bBoxF hb1 (w.heap.size + 1) (by first | (simp; done) | (simp; omega)) o).trans (frozen_g _ _ (by simp) _ _ _)
  have rz : w.heap.size + 1 < w1.heap.size := cell_lt r0
  clear hb1
  go_wp2_with fail
  refine Calls.mono (RotateXY_c M ((-t1) % 4) (-x1) (-y1) HR.out hM _) ?_
  rintro e w2 ⟨a, b, rfl, ⟨a0, a1, b0, b1⟩, hb2⟩
  have B2 := bTrans B1 hb2
  have s0 := bCell hb2 r0
  have s1 := bCell hb2 r1
  have s2 := bCell hb2 r2
  have sf : ∀ o, w2.frozen? ⟨w.heap.size + 1, o, none⟩ = false := fun o => (bBoxF hb2 (w.heap.size + 1) rz o).trans (rf o)
  have sz : w.heap.size + 1 < w2.heap.size := cell_lt s0
  have hres : nearP M ((-t1) % 4) a b := ⟨by omega, by omega, a0, a1, b0, b1⟩
  have HRES := Lib.hid hres
  clear r0 r1 r2 rf rz p0 p1 p2 B1 hb2 hres HR
  go_wp2_with fail
  refine bodyPost_ret (v := vPose ((-t1) % 4) a b) (by simp [*, results, Tryd.results112, go_sem]) rfl ⟨_, _, _, rfl, HRES.out, ?_⟩
  repeat (first | with_reducible exact B2 | with_reducible refine bAlloc ?_ _ | ((with_reducible refine bSet ?_ ?_ _); rotate_left; (first | (simp; done) | (simp; omega) | simp | omega)))
theorem Between_c (M N t1 x1 y1 t2 x2 y2 : Int) (h1 : nearP M t1 x1 y1) (h2 : nearP N t2 x2 y2) (hM : M ≤ 100000) (hN : N ≤ 100000) (w : World) :
    Calls Tryd.prog 87 #[vPose t1 x1 y1, vPose t2 x2 y2] w fun e w' => ∃ t x y, e = .returned (vPose t x y) ∧ nearP (M + N) t x y ∧ Below w.heap.size w w' := by
  have H1 := Lib.hid h1
  have H2 := Lib.hid h2
  clear h1 h2
  go_enter Tryd.func87, Tryd.ntmps87
  go_wp2_with fail
  refine region_at fun R hR => ?_
  have hwb : Below w.heap.size w R := by rw [hR.out]; exact bAlloc (bAlloc (bAlloc (Below.refl _ _) _) _) _
  have g0 : R.cell? ⟨w.heap.size, 0, none⟩ = some (.int .i64 t1) := by rw [hR.out]; exact bCell (bAlloc (Below.refl _ _) _) (two_b _ _ _ _ _ _ _ rfl)
  have g1 : R.cell? ⟨w.heap.size, 1, none⟩ = some (.int .i64 x1) := by rw [hR.out]; exact bCell (bAlloc (Below.refl _ _) _) (two_b _ _ _ _ _ _ _ rfl)
  have g2 : R.cell? ⟨w.heap.size, 2, none⟩ = some (.int .i64 y1) := by rw [hR.out]; exact bCell (bAlloc (Below.refl _ _) _) (two_b _ _ _ _ _ _ _ rfl)
  have g3 : R.cell? ⟨w.heap.size + 1, 0, none⟩ = some (.int .i64 t2) := by rw [hR.out]; exact bCell (bAlloc (Below.refl _ _) _) (next_b _ _ _ rfl _ _ _ _ rfl)
  have g4 : R.cell? ⟨w.heap.size + 1, 1, none⟩ = some (.int .i64 x2) := by rw [hR.out]; exact bCell (bAlloc (Below.refl _ _) _) (next_b _ _ _ rfl _ _ _ _ rfl)
  have g5 : R.cell? ⟨w.heap.size + 1, 2, none⟩ = some (.int .i64 y2) := by rw [hR.out]; exact bCell (bAlloc (Below.refl _ _) _) (next_b _ _ _ rfl _ _ _ _ rfl)
  have r0 : R.cell? ⟨w.heap.size + 1 + 1, 0, none⟩ = some (.int .i64 0) := by rw [hR.out]; exact next_b _ _ _ (by simp) _ _ _ _ rfl
  have r1 : R.cell? ⟨w.heap.size + 1 + 1, 1, none⟩ = some (.int .i64 0) := by rw [hR.out]; exact next_b _ _ _ (by simp) _ _ _ _ rfl
  have r2 : R.cell? ⟨w.heap.size + 1 + 1, 2, none⟩ = some (.int .i64 0) := by rw [hR.out]; exact next_b _ _ _ (by simp) _ _ _ _ rfl
  have rf : ∀ o, R.frozen? ⟨w.heap.size + 1 + 1, o, none⟩ = false := fun o => by rw [hR.out]; exact frozen_g _ _ (by simp) _ _ _
  have rz : w.heap.size + 1 + 1 < R.heap.size := cell_lt r0
  clear hR
  go_region_law (first
    | (go_simp; go_at_call 112; refine (Inverse_c M _ _ _ H1.out hM _).mono ?_; rintro e w2 ⟨t3, x3, y3, rfl, hp3, hb2⟩; have B2 : Below w.heap.size w w2 := bTrans (bDrew hwb) hb2; have k3 := bCell hb2 (show R.drew.cell? _ = _ from g3); have k4 := bCell hb2 (show R.drew.cell? _ = _ from g4); have k5 := bCell hb2 (show R.drew.cell? _ = _ from g5); have u0 := bCell hb2 (show R.drew.cell? _ = _ from r0); have u1 := bCell hb2 (show R.drew.cell? _ = _ from r1); have u2 := bCell hb2 (show R.drew.cell? _ = _ from r2); have uf : ∀ o, w2.frozen? ⟨w.heap.size + 1 + 1, o, none⟩ = false := (fun o => (bBoxF hb2 (w.heap.size + 1 + 1) rz o).trans (rf o)); have H3 := Lib.hid hp3; have uz : w.heap.size + 1 + 1 < w2.heap.size := cell_lt u0)
    | (go_simp; go_at_call 85; refine (Compose_c M N _ _ _ _ _ _ H3.out H2.out hM hN _).mono ?_; rintro e w3 ⟨t4, x4, y4, rfl, hp4, hb3⟩; have B3 := bTrans B2 hb3; have v0 := bCell hb3 u0; have v1 := bCell hb3 u1; have v2 := bCell hb3 u2; have vf : ∀ o, w3.frozen? ⟨w.heap.size + 1 + 1, o, none⟩ = false := (fun o => (bBoxF hb3 (w.heap.size + 1 + 1) uz o).trans (uf o)); have H4 := Lib.hid hp4))
  all_goals
    go_wp2_with fail
    refine bodyPost_ret (v := vPose t4 x4 y4) (by simp [*, results, Tryd.results87, go_sem]) rfl ⟨_, _, _, rfl, H4.out, ?_⟩
    repeat (first | with_reducible exact B3 | with_reducible refine bAlloc ?_ _ | ((with_reducible refine bSet ?_ ?_ _); rotate_left; (first | (simp; done) | (simp; omega) | simp | omega)))
end Go.Proofs.YtebcdjpddoaajaaDoor

/- What the draw of a shared list is known to be: a valid list of few factors. No program in sight. -/
namespace Go.Proofs.YtebcdjpddoaajaaDoor
open Go.RowKit
set_option linter.unusedVariables false
set_option linter.unusedSimpArgs false
theorem wfs {n : Int} (h0 : -9223372036854775808 ≤ n) (h1 : n ≤ 9223372036854775807) : wfI n := by
  simp [wfI, Lit.wf, IntKind.min, IntKind.max, IntKind.signed, IntKind.bits]
  omega
theorem isNm_size8 {s : ByteArray} (h : isNm s = true) : s.size ≤ 8 := by
  unfold isNm at h
  simp only [Bool.and_eq_true, decide_eq_true_eq] at h
  omega
theorem nmWith_size8 {s : ByteArray} {b : Int} (h : nmWith s b = true) : s.size ≤ 8 := by
  unfold nmWith at h
  simp only [Bool.and_eq_true] at h
  exact isNm_size8 h.1
theorem size_toList {s : ByteArray} (h : s.toList = []) : s.size = 0 := by
  rw [ByteArray.toList_eq] at h
  show s.data.size = 0
  rw [← Array.length_toList, h]; rfl
theorem vld_small {f : Factor} (h : vldFactor f = true) : f.frm.size ≤ 8 ∧ f.to.size ≤ 8 := by
  obtain ⟨_, _, _, _, h1, h2, h3⟩ := vld_parts h
  refine ⟨?_, h3.elim nmWith_size8 nmWith_size8⟩
  by_cases k : f.kind = 1
  · rw [size_toList (h1 k)]; omega
  · exact nmWith_size8 (h2 k)
theorem vld_ok {f : Factor} (h : vldFactor f = true) : f.ok := by
  have hs := vld_small h
  obtain ⟨h1, h2, h3, h4, _⟩ := vld_parts h
  unfold vldPose at h3
  simp only [Bool.and_eq_true] at h3
  have a1 := inR_iff.1 h1; have a2 := inR_iff.1 h2; have a3 := inR_iff.1 h3.1; have a4 := inR_iff.1 h3.2.1; have a5 := inR_iff.1 h3.2.2
  exact ⟨by simp only [maxLen]; omega, by simp only [maxLen]; omega, wfs (by omega) (by omega), wfs (by omega) (by omega), wfs (by omega) (by omega), wfs (by omega) (by omega), wfs (by omega) (by omega), wfs (by omega) (by omega)⟩
theorem ascL_vld : ∀ {l : List Factor} {p : Option Int}, ascL l p = true → ∀ f ∈ l, vldFactor f = true
  | g :: l, p, h, f, hf => by
    simp only [ascL, Bool.and_eq_true] at h
    rcases List.mem_cons.1 hf with rfl | hf
    · exact h.1
    · exact ascL_vld h.2.2 f hf
theorem isFL_vld {l : List Factor} (h : isFL l = true) : ∀ f ∈ l, vldFactor f = true := ascL_vld (isFL_asc h)
theorem bulk_vld : ∀ {l : List Factor}, (∀ f ∈ l, vldFactor f = true) → sumBulk Factor.bulk l ≤ 16 * l.length
  | [], _ => Nat.le_refl _
  | f :: l, h => by
    have h1 := vld_small (h f (by simp))
    have h2 := bulk_vld (l := l) fun g hg => h g (by simp [hg])
    simp only [sumBulk, Factor.bulk, List.length_cons] at *
    omega
theorem isFL_bulk {l : List Factor} (h : isFL l = true) : bulkF l ≤ 1048576 := by
  have h1 := bulk_vld (isFL_vld h)
  have h2 := isFL_len h
  unfold bulkF; omega
theorem isFL_ok {l : List Factor} (h : isFL l = true) : okF l := fun f hf => vld_ok (isFL_vld h f hf)
theorem isBundle_bulk {r : Int} {l : List Factor} (h : isBundle r l = true) : bulkF l ≤ 1048576 := by
  have h1 := bulk_vld (isBundle_vld h)
  simp only [isBundle, Bool.and_eq_true] at h
  have := inR_iff.1 h.2.1
  unfold bulkF; omega
theorem isBundle_ok {r : Int} {l : List Factor} (h : isBundle r l = true) : okF l := fun f hf => vld_ok (isBundle_vld h f hf)
theorem isBundle_r {r : Int} {l : List Factor} (h : isBundle r l = true) : wfI r := by
  simp only [isBundle, Bool.and_eq_true] at h
  have := inR_iff.1 h.1
  exact wfs (by omega) (by omega)
theorem vld_setid {f : Factor} (h : vldFactor f = true) {x : Int} (hx : 0 ≤ x ∧ x ≤ 99999) : vldFactor ⟨x, f.kind, f.frm, f.to, f.pose, f.weight⟩ = true := by
  unfold vldFactor vldF at h ⊢
  simp only [Bool.and_eq_true] at h ⊢
  exact ⟨inR_iff.2 hx, h.2⟩
theorem ascL_snoc : ∀ {l : List Factor} {f : Factor} {p : Option Int}, ascL l p = true → vldFactor f = true → (∀ g ∈ l, g.id < f.id) → after p f.id = true → ascL (l ++ [f]) p = true
  | [], f, p, _, hv, _, hp => by
    simp only [List.nil_append, ascL, hv, Bool.true_and, Bool.and_true]
    exact hp
  | g :: l, f, p, h, hv, hl, hp => by
    simp only [ascL, Bool.and_eq_true] at h
    simp only [List.cons_append, ascL, Bool.and_eq_true]
    exact ⟨h.1, h.2.1, ascL_snoc h.2.2 hv (fun x hx => hl x (by simp [hx])) (by simpa [after] using hl g (by simp))⟩
end Go.Proofs.YtebcdjpddoaajaaDoor
