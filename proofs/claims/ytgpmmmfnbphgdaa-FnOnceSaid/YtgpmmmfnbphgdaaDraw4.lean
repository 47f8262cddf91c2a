/- l16Draw: a valid factor. -/
import Derived.Test.YtgpmmmfnbphgdaaDraw3
import Derived.Test.YtgpmmmfnbphgdaaValid
namespace Go.Proofs.Ytgpmmmfnbphgdaa
open Go.RowKit
set_option linter.unusedVariables false
set_option linter.unusedSimpArgs false
set_option maxHeartbeats 1000000
set_option maxRecDepth 100000
abbrev pNames : List ByteArray := [(⟨#[112, 48]⟩ : ByteArray), ⟨#[112, 49]⟩, ⟨#[112, 50]⟩, ⟨#[112, 51]⟩]
abbrev mNames : List ByteArray := [(⟨#[109, 48]⟩ : ByteArray), ⟨#[109, 49]⟩]
theorem pNames_ok : ∀ s ∈ pNames, isPoseNm s = true ∧ (s.toList == (⟨#[112, 52]⟩ : ByteArray).toList) = false ∧ s.toList.isEmpty = false ∧ s.size = 2 := by decide +kernel
theorem mNames_ok : ∀ s ∈ mNames, isLandNm s = true ∧ (s.toList == (⟨#[112, 52]⟩ : ByteArray).toList) = false ∧ s.size = 2 := by decide +kernel
theorem mp_ne : ∀ s ∈ pNames, ∀ t ∈ mNames, (s.toList == t.toList) = false := by decide +kernel
theorem p4_ok : isPoseNm (⟨#[112, 52]⟩ : ByteArray) = true := by decide +kernel
theorem nearP.vld {M t x y : Int} (h : nearP M t x y) (hM : M ≤ 1000000) : vldPose t x y = true := by
  obtain ⟨h1, h2, h3, h4, h5, h6⟩ := h
  simp only [vldPose, Bool.and_eq_true]
  exact ⟨inR_iff.2 ⟨h1, h2⟩, inR_iff.2 ⟨by omega, by omega⟩, inR_iff.2 ⟨by omega, by omega⟩⟩
/-- a valid factor, out of its parts -/
theorem vld_prior {id t x y wt : Int} {to : ByteArray} (h1 : inR id 0 99999 = true) (h2 : vldPose t x y = true) (h3 : inR wt 1 9999 = true) (h4 : isPoseNm to = true) : vldFactor ⟨id, 1, ⟨#[]⟩, to, ⟨t, x, y⟩, wt⟩ = true := by
  have e : (⟨#[]⟩ : ByteArray).toList.isEmpty = true := by decide +kernel
  simp [vldFactor, vldF, h1, h2, h3, h4, e]
theorem vld_two {id k t x y wt : Int} {fr to : ByteArray} (hk : k = 2 ∨ k = 4) (h1 : inR id 0 99999 = true) (h2 : vldPose t x y = true) (h3 : inR wt 1 9999 = true) (h4 : isPoseNm fr = true) (h5 : isPoseNm to = true) (h6 : (fr.toList == to.toList) = false) : vldFactor ⟨id, k, fr, to, ⟨t, x, y⟩, wt⟩ = true := by
  have hk1 : ¬ k = 1 := by omega
  simp only [vldFactor, vldF, h1, h2, h3, h4, h5, h6, hk1, hk, if_false, if_true]; rfl
theorem vld_land {id x y wt : Int} {fr to : ByteArray} (h1 : inR id 0 99999 = true) (h2 : vldPose 0 x y = true) (h3 : inR wt 1 9999 = true) (h4 : isPoseNm fr = true) (h5 : isLandNm to = true) : vldFactor ⟨id, 3, fr, to, ⟨0, x, y⟩, wt⟩ = true := by
  simp [vldFactor, vldF, h1, h2, h3, h4, h5]
theorem cells_b {w : World} {cs : Array Value} {t : TypeId} {k : Nat} {v : Value} (h : cs[k]? = some v) : (w.alloc (.cells cs t)).cell? ⟨w.heap.size, k, none⟩ = some v := by
  have e : (w.alloc (.cells cs t)).heap[w.heap.size]? = some (.cells cs t) := heap_alloc_new w _
  unfold World.cell?
  rw [e]
  exact h
theorem frozen_b (w : World) (cs : Array Value) (t : TypeId) (o : Obj) (k : Nat) : ((w.alloc (.cells cs t)).alloc o).frozen? ⟨w.heap.size, k, none⟩ = false := by
  have e : ((w.alloc (.cells cs t)).alloc o).heap[w.heap.size]? = some (.cells cs t) := ((bAlloc (Below.refl (w.alloc (.cells cs t)).heap.size (w.alloc (.cells cs t))) o).block w.heap.size (by simp)).trans (heap_alloc_new w _)
  unfold World.frozen?
  rw [e]
  rfl
theorem Cur.alloc_ {W w : World} {b : Nat} {A : Option Addr} {n c : Nat} (h : Cur W w b A n c) (o : Obj) : Cur W (w.alloc o) b A n c := h.below (bAlloc (Below.refl _ _) o)
theorem frozen_a (w : World) (cs : Array Value) (t : TypeId) (k : Nat) : (w.alloc (.cells cs t)).frozen? ⟨w.heap.size, k, none⟩ = false := by
  have e : (w.alloc (.cells cs t)).heap[w.heap.size]? = some (.cells cs t) := heap_alloc_new w _
  unfold World.frozen?
  rw [e]
  rfl
theorem frozen_al {w : World} {o : Obj} {g k : Nat} (h : g < w.heap.size) (hf : w.frozen? ⟨g, k, none⟩ = false) : (w.alloc o).frozen? ⟨g, k, none⟩ = false := ((bAlloc (Below.refl w.heap.size w) o).frozen (p := ⟨g, k, none⟩) h).trans hf
theorem pick_row' (w : World) (g : Nat) (hg : g = w.heap.size) (a0 a1 a2 a3 a4 : Int) : RowI (w.alloc (.cells #[.int .i64 a0, .int .i64 a1, .int .i64 a2, .int .i64 a3, .int .i64 a4] 3)) (some ⟨g, 0, none⟩) 5 [a0, a1, a2, a3, a4] := by subst hg; exact pick_row w a0 a1 a2 a3 a4
theorem str_row' (w : World) (g : Nat) (hg : g = w.heap.size) (l : List ByteArray) : RowS (w.alloc (.cells (l.map Value.string).toArray 9)) (some ⟨g, 0, none⟩) l.length l := by subst hg; exact str_row w l
theorem l16Draw_c {W w : World} {b : Nat} {A : Option Addr} {n c : Nat} (hy : Bytes W A n) (hn : n ≤ 1048576) (h : Cur W w b A n c) (id : Int) (hid : inR id 0 99999 = true) :
    Calls Try.prog 22 #[.pointer (some ⟨b, 0, none⟩), .int .i64 id] w fun e w' => ∃ k fr to t x y wt, e = .returned (vFactor id k fr to t x y wt) ∧ vldFactor ⟨id, k, fr, to, ⟨t, x, y⟩, wt⟩ = true ∧ Cur W w' b A n c ∧ Upd [b] w w' := by
  have hlt := h.lt
  have hy' := Lib.hid hy
  have hz : Below w.heap.size w (w.alloc (.cells #[.int .i64 0, .int .i64 0, .string ⟨#[]⟩, .string ⟨#[]⟩, .int .i64 0, .int .i64 0, .int .i64 0, .int .i64 0] 45)) := bAlloc (Below.refl _ _) _
  have hc0 := h.below hz
  have HC := Lib.hid (hc0.below (bAlloc (Below.refl _ _) (.cells #[.int .i64 1, .int .i64 2, .int .i64 2, .int .i64 3, .int .i64 4] 3)))
  have hrow := Lib.hid (pick_row' (w.alloc (.cells #[.int .i64 0, .int .i64 0, .string ⟨#[]⟩, .string ⟨#[]⟩, .int .i64 0, .int .i64 0, .int .i64 0, .int .i64 0] 45)) (w.heap.size + 1) (by simp) 1 2 2 3 4)
  have HID := Lib.hid hid
  clear h hy hc0 hz hid
  go_enter Try.func22, Try.ntmps22
  go_wp2_with fail
  refine Calls.mono (l01Pick_c hy'.out hn HC.out _ 5 5 _ hrow.out (by simp; omega) (by omega) (by omega)) ?_
  rintro e w1 ⟨k, rfl, hk, hc1, hu1⟩
  have HC1 := Lib.hid hc1
  have U1 : Upd [b] w w1 := (Upd.of_below (bAlloc (bAlloc (Below.refl _ _) _) _)).trans hu1
  have q1 := uBox hu1 w.heap.size (by simp; omega) (by simp; omega)
  have f1 := uBoxF hu1 w.heap.size (by simp; omega) (by simp; omega)
  have z1 : w.heap.size + 1 < w1.heap.size := by have := hu1.size; simp at this; omega
  have HK := Lib.hid hk
  clear hc1 HC hrow hu1 hk
  go_wp2_with fail
  refine Calls.mono (l16Pose_c hy'.out hn HC1.out) ?_
  rintro e w2 ⟨to, rfl, hto, hc2, hu2⟩
  have HTO := Lib.hid hto
  have HC2 := Lib.hid hc2
  have U2 := U1.trans hu2
  have q2 := uBox hu2 w.heap.size (by omega) (by simp; omega)
  have f2 := uBoxF hu2 w.heap.size (by omega) (by simp; omega)
  have z2 : w.heap.size + 1 < w2.heap.size := by have := hu2.size; omega
  clear hc2 HC1 hu2 hto
  go_wp2_with fail
  refine Calls.mono (l05Draw_c hy'.out hn HC2.out) ?_
  rintro e w3 ⟨t, x, y, rfl, hp, hc3, hu3⟩
  have HP := Lib.hid hp
  have HC3 := Lib.hid hc3
  have U3 := U2.trans hu3
  have q3 := uBox hu3 w.heap.size (by omega) (by simp; omega)
  have f3 := uBoxF hu3 w.heap.size (by omega) (by simp; omega)
  have z3 : w.heap.size + 1 < w3.heap.size := by have := hu3.size; omega
  clear hc3 HC2 hu3 hp
  go_wp2_with fail
  refine Calls.mono (l01Below_c hy'.out hn HC3.out 9 (by omega) (by omega)) ?_
  rintro e w4 ⟨wt, rfl, hw0, hw1, hc4, hu4⟩
  have HC4 := Lib.hid (hc4.below (bAlloc (Below.refl _ _) (.cells #[.int .i64 id, .int .i64 k, .string ⟨#[]⟩, .string to, .int .i64 t, .int .i64 x, .int .i64 y, .int .i64 (1 + wt)] 45)))
  have U4 : Upd [b] w (w4.alloc (.cells #[.int .i64 id, .int .i64 k, .string ⟨#[]⟩, .string to, .int .i64 t, .int .i64 x, .int .i64 y, .int .i64 (1 + wt)] 45)) := (U3.trans hu4).alloc_ _
  have q4 := uBox hu4 w.heap.size (by omega) (by simp; omega)
  have f4 := uBoxF hu4 w.heap.size (by omega) (by simp; omega)
  have z4 : w.heap.size + 1 < w4.heap.size := by have := hu4.size; omega
  have hwt := Lib.hid (inR_iff.2 (show 1 ≤ 1 + wt ∧ 1 + wt ≤ 9999 from ⟨by omega, by omega⟩))
  have s4 : ∀ (j : Nat) (v : Value), (#[.int .i64 0, .int .i64 0, .string ⟨#[]⟩, .string ⟨#[]⟩, .int .i64 0, .int .i64 0, .int .i64 0, .int .i64 0] : Array Value)[j]? = some v → w4.cell? ⟨w.heap.size, j, none⟩ = some v := fun j v hv => by
    rw [q4, q3, q2, q1]
    exact bCell (bAlloc (Below.refl _ _) _) (cells_b hv)
  have d0 := s4 0 _ rfl; have d1 := s4 1 _ rfl; have d2 := s4 2 _ rfl; have d3 := s4 3 _ rfl
  have d4 := s4 4 _ rfl; have d5 := s4 5 _ rfl; have d6 := s4 6 _ rfl; have d7 := s4 7 _ rfl
  have g4 : ∀ o, w4.frozen? ⟨w.heap.size, o, none⟩ = false := fun o => by rw [f4, f3, f2, f1]; exact frozen_b _ _ _ _ _
  have z5 : w.heap.size < w4.heap.size := by omega
  have U4w := U3.trans hu4
  have hcw := hc4
  clear s4 q1 q2 q3 q4 f1 f2 f3 f4 z1 z2 z3 hc4 HC3 hu4
  have hkk : k = 1 ∨ k = 2 ∨ k = 3 ∨ k = 4 := by have := HK.out; simp at this; omega
  have UW := Lib.hid U4w
  have HCw := Lib.hid hcw
  clear U4w hcw HK
  rcases hkk with rfl | rfl | rfl | rfl
  · obtain ⟨o1, o2, o3, o4⟩ := pNames_ok to HTO.out
    have hne : (([] : List UInt8) == to.toList) = false := by
      cases h : to.toList with
      | nil => rw [h] at o3; cases o3
      | cons a l => rfl
    have hvl := Lib.hid (vld_prior (id := id) (to := to) HID.out (HP.out.vld (by omega)) hwt.out o1)
    clear o1 o2
    go_wp2
    exact bodyPost_ret (v := vFactor id 1 ⟨#[]⟩ to t x y (1 + wt)) (by simp [*, results, Try.results22, go_sem]) rfl ⟨1, ⟨#[]⟩, to, t, x, y, 1 + wt, rfl, hvl.out, (by repeat (first | with_reducible exact HCw.out | ((with_reducible refine Cur.set_ ?_ ?_ _); rotate_left; (first | (simp; omega) | (simp) | omega)) | with_reducible refine Cur.alloc_ ?_ _)), (by repeat (first | with_reducible exact UW.out | ((with_reducible refine Upd.set_new ?_ ?_ _); rotate_left; (first | (simp; omega) | (simp) | omega)) | with_reducible refine Upd.alloc_ ?_ _))⟩
  · obtain ⟨o1, o2, o3, o4⟩ := pNames_ok to HTO.out
    go_wp2_with fail
    refine Calls.mono (l16Pose_c hy'.out hn HC4.out) ?_
    rintro e w5 ⟨fr, rfl, hfr, hc5, hu5⟩
    obtain ⟨p1, p2, p3, p4⟩ := pNames_ok fr hfr
    have a0 : w5.cell? ⟨w4.heap.size, 0, none⟩ = some (.int .i64 id) := (uBox hu5 (w4.heap.size) (by simp) (by simp; omega) _).trans (cells_b rfl)
    have a1 : w5.cell? ⟨w4.heap.size, 1, none⟩ = some (.int .i64 2) := (uBox hu5 (w4.heap.size) (by simp) (by simp; omega) _).trans (cells_b rfl)
    have a2 : w5.cell? ⟨w4.heap.size, 2, none⟩ = some (.string ⟨#[]⟩) := (uBox hu5 (w4.heap.size) (by simp) (by simp; omega) _).trans (cells_b rfl)
    have a3 : w5.cell? ⟨w4.heap.size, 3, none⟩ = some (.string to) := (uBox hu5 (w4.heap.size) (by simp) (by simp; omega) _).trans (cells_b rfl)
    have a4 : w5.cell? ⟨w4.heap.size, 4, none⟩ = some (.int .i64 t) := (uBox hu5 (w4.heap.size) (by simp) (by simp; omega) _).trans (cells_b rfl)
    have a5 : w5.cell? ⟨w4.heap.size, 5, none⟩ = some (.int .i64 x) := (uBox hu5 (w4.heap.size) (by simp) (by simp; omega) _).trans (cells_b rfl)
    have a6 : w5.cell? ⟨w4.heap.size, 6, none⟩ = some (.int .i64 y) := (uBox hu5 (w4.heap.size) (by simp) (by simp; omega) _).trans (cells_b rfl)
    have a7 : w5.cell? ⟨w4.heap.size, 7, none⟩ = some (.int .i64 (1 + wt)) := (uBox hu5 (w4.heap.size) (by simp) (by simp; omega) _).trans (cells_b rfl)
    have af : ∀ o, w5.frozen? ⟨w4.heap.size, o, none⟩ = false := fun o => (uBoxF hu5 (w4.heap.size) (by simp) (by simp; omega) _).trans (frozen_a _ _ _ _)
    have az : w4.heap.size < w5.heap.size := by have := hu5.size; simp at this; omega
    have r0 : w5.cell? ⟨w.heap.size, 0, none⟩ = some (.int .i64 0) := (uBox hu5 (w.heap.size) (by simp; omega) (by simp; omega) _).trans (bCell (bAlloc (Below.refl _ _) _) d0)
    have r1 : w5.cell? ⟨w.heap.size, 1, none⟩ = some (.int .i64 0) := (uBox hu5 (w.heap.size) (by simp; omega) (by simp; omega) _).trans (bCell (bAlloc (Below.refl _ _) _) d1)
    have r2 : w5.cell? ⟨w.heap.size, 2, none⟩ = some (.string ⟨#[]⟩) := (uBox hu5 (w.heap.size) (by simp; omega) (by simp; omega) _).trans (bCell (bAlloc (Below.refl _ _) _) d2)
    have r3 : w5.cell? ⟨w.heap.size, 3, none⟩ = some (.string ⟨#[]⟩) := (uBox hu5 (w.heap.size) (by simp; omega) (by simp; omega) _).trans (bCell (bAlloc (Below.refl _ _) _) d3)
    have r4 : w5.cell? ⟨w.heap.size, 4, none⟩ = some (.int .i64 0) := (uBox hu5 (w.heap.size) (by simp; omega) (by simp; omega) _).trans (bCell (bAlloc (Below.refl _ _) _) d4)
    have r5 : w5.cell? ⟨w.heap.size, 5, none⟩ = some (.int .i64 0) := (uBox hu5 (w.heap.size) (by simp; omega) (by simp; omega) _).trans (bCell (bAlloc (Below.refl _ _) _) d5)
    have r6 : w5.cell? ⟨w.heap.size, 6, none⟩ = some (.int .i64 0) := (uBox hu5 (w.heap.size) (by simp; omega) (by simp; omega) _).trans (bCell (bAlloc (Below.refl _ _) _) d6)
    have r7 : w5.cell? ⟨w.heap.size, 7, none⟩ = some (.int .i64 0) := (uBox hu5 (w.heap.size) (by simp; omega) (by simp; omega) _).trans (bCell (bAlloc (Below.refl _ _) _) d7)
    have rf : ∀ o, w5.frozen? ⟨w.heap.size, o, none⟩ = false := fun o => (uBoxF hu5 (w.heap.size) (by simp; omega) (by simp; omega) _).trans (frozen_al z5 (g4 o))
    have rz : w.heap.size < w5.heap.size := by have := hu5.size; simp at this; omega
    have U5 := Lib.hid (U4.trans hu5)
    have HC5 := Lib.hid hc5
    clear d0 d1 d2 d3 d4 d5 d6 d7 g4 hc5 hu5 HC4 HCw UW z5
    cases heq : (fr.toList == to.toList)
    · have hvl := Lib.hid (vld_two (id := id) (k := 2) (by omega) HID.out (HP.out.vld (by omega)) hwt.out p1 o1 heq)
      clear p1 o1 p2 o2
      go_wp2
      exact bodyPost_ret (v := vFactor id 2 fr to t x y (1 + wt)) (by simp [*, results, Try.results22, go_sem]) rfl ⟨2, fr, to, t, x, y, 1 + wt, rfl, hvl.out, (by repeat (first | with_reducible exact HC5.out | ((with_reducible refine Cur.set_ ?_ ?_ _); rotate_left; (first | (simp; omega) | (simp) | omega)) | with_reducible refine Cur.alloc_ ?_ _)), (by repeat (first | with_reducible exact U5.out | ((with_reducible refine Upd.set_new ?_ ?_ _); rotate_left; (first | (simp; omega) | (simp) | omega)) | with_reducible refine Upd.alloc_ ?_ _))⟩
    · have o2' : ((⟨#[112, 52]⟩ : ByteArray).toList == to.toList) = false := by
        rw [Bool.eq_false_iff] at o2 ⊢
        intro h; exact o2 (by rw [beq_iff_eq] at h ⊢; exact h.symm)
      have hvl := Lib.hid (vld_two (id := id) (k := 2) (by omega) HID.out (HP.out.vld (by omega)) hwt.out p4_ok o1 o2')
      clear p1 o1 p2 o2 o2'
      go_wp2
      exact bodyPost_ret (v := vFactor id 2 ⟨#[112, 52]⟩ to t x y (1 + wt)) (by simp [*, results, Try.results22, go_sem]) rfl ⟨2, ⟨#[112, 52]⟩, to, t, x, y, 1 + wt, rfl, hvl.out, (by repeat (first | with_reducible exact HC5.out | ((with_reducible refine Cur.set_ ?_ ?_ _); rotate_left; (first | (simp; omega) | (simp) | omega)) | with_reducible refine Cur.alloc_ ?_ _)), (by repeat (first | with_reducible exact U5.out | ((with_reducible refine Upd.set_new ?_ ?_ _); rotate_left; (first | (simp; omega) | (simp) | omega)) | with_reducible refine Upd.alloc_ ?_ _))⟩
  · obtain ⟨o1, o2, o3, o4⟩ := pNames_ok to HTO.out
    go_wp2_with fail
    refine Calls.mono (l16Pose_c hy'.out hn HC4.out) ?_
    rintro e w5 ⟨fr, rfl, hfr, hc5, hu5⟩
    obtain ⟨p1, p2, p3, p4⟩ := pNames_ok fr hfr
    have a0 : w5.cell? ⟨w4.heap.size, 0, none⟩ = some (.int .i64 id) := (uBox hu5 (w4.heap.size) (by simp) (by simp; omega) _).trans (cells_b rfl)
    have a1 : w5.cell? ⟨w4.heap.size, 1, none⟩ = some (.int .i64 3) := (uBox hu5 (w4.heap.size) (by simp) (by simp; omega) _).trans (cells_b rfl)
    have a2 : w5.cell? ⟨w4.heap.size, 2, none⟩ = some (.string ⟨#[]⟩) := (uBox hu5 (w4.heap.size) (by simp) (by simp; omega) _).trans (cells_b rfl)
    have a3 : w5.cell? ⟨w4.heap.size, 3, none⟩ = some (.string to) := (uBox hu5 (w4.heap.size) (by simp) (by simp; omega) _).trans (cells_b rfl)
    have a4 : w5.cell? ⟨w4.heap.size, 4, none⟩ = some (.int .i64 t) := (uBox hu5 (w4.heap.size) (by simp) (by simp; omega) _).trans (cells_b rfl)
    have a5 : w5.cell? ⟨w4.heap.size, 5, none⟩ = some (.int .i64 x) := (uBox hu5 (w4.heap.size) (by simp) (by simp; omega) _).trans (cells_b rfl)
    have a6 : w5.cell? ⟨w4.heap.size, 6, none⟩ = some (.int .i64 y) := (uBox hu5 (w4.heap.size) (by simp) (by simp; omega) _).trans (cells_b rfl)
    have a7 : w5.cell? ⟨w4.heap.size, 7, none⟩ = some (.int .i64 (1 + wt)) := (uBox hu5 (w4.heap.size) (by simp) (by simp; omega) _).trans (cells_b rfl)
    have af : ∀ o, w5.frozen? ⟨w4.heap.size, o, none⟩ = false := fun o => (uBoxF hu5 (w4.heap.size) (by simp) (by simp; omega) _).trans (frozen_a _ _ _ _)
    have az : w4.heap.size < w5.heap.size := by have := hu5.size; simp at this; omega
    have r0 : w5.cell? ⟨w.heap.size, 0, none⟩ = some (.int .i64 0) := (uBox hu5 (w.heap.size) (by simp; omega) (by simp; omega) _).trans (bCell (bAlloc (Below.refl _ _) _) d0)
    have r1 : w5.cell? ⟨w.heap.size, 1, none⟩ = some (.int .i64 0) := (uBox hu5 (w.heap.size) (by simp; omega) (by simp; omega) _).trans (bCell (bAlloc (Below.refl _ _) _) d1)
    have r2 : w5.cell? ⟨w.heap.size, 2, none⟩ = some (.string ⟨#[]⟩) := (uBox hu5 (w.heap.size) (by simp; omega) (by simp; omega) _).trans (bCell (bAlloc (Below.refl _ _) _) d2)
    have r3 : w5.cell? ⟨w.heap.size, 3, none⟩ = some (.string ⟨#[]⟩) := (uBox hu5 (w.heap.size) (by simp; omega) (by simp; omega) _).trans (bCell (bAlloc (Below.refl _ _) _) d3)
    have r4 : w5.cell? ⟨w.heap.size, 4, none⟩ = some (.int .i64 0) := (uBox hu5 (w.heap.size) (by simp; omega) (by simp; omega) _).trans (bCell (bAlloc (Below.refl _ _) _) d4)
    have r5 : w5.cell? ⟨w.heap.size, 5, none⟩ = some (.int .i64 0) := (uBox hu5 (w.heap.size) (by simp; omega) (by simp; omega) _).trans (bCell (bAlloc (Below.refl _ _) _) d5)
    have r6 : w5.cell? ⟨w.heap.size, 6, none⟩ = some (.int .i64 0) := (uBox hu5 (w.heap.size) (by simp; omega) (by simp; omega) _).trans (bCell (bAlloc (Below.refl _ _) _) d6)
    have r7 : w5.cell? ⟨w.heap.size, 7, none⟩ = some (.int .i64 0) := (uBox hu5 (w.heap.size) (by simp; omega) (by simp; omega) _).trans (bCell (bAlloc (Below.refl _ _) _) d7)
    have rf : ∀ o, w5.frozen? ⟨w.heap.size, o, none⟩ = false := fun o => (uBoxF hu5 (w.heap.size) (by simp; omega) (by simp; omega) _).trans (frozen_al z5 (g4 o))
    have rz : w.heap.size < w5.heap.size := by have := hu5.size; simp at this; omega
    have U5 := Lib.hid (U4.trans hu5)
    have HC5 := Lib.hid hc5
    clear d0 d1 d2 d3 d4 d5 d6 d7 g4 hc5 hu5 HC4 HCw UW z5
    have hrow2 := Lib.hid (str_row' (w5.setCell ⟨w4.heap.size, 2, none⟩ (.string fr)) w5.heap.size (by simp) mNames)
    have HC6 := Lib.hid ((HC5.out.set_ (p := ⟨w4.heap.size, 2, none⟩) (by simp; omega) (.string fr)).alloc_ (.cells #[.string ⟨#[109, 48]⟩, .string ⟨#[109, 49]⟩] 9))
    have U6 := Lib.hid ((U5.out.set_new (p := ⟨w4.heap.size, 2, none⟩) (by simp; omega) (.string fr)).alloc_ (.cells #[.string ⟨#[109, 48]⟩, .string ⟨#[109, 49]⟩] 9))
    clear HC5 U5
    go_wp2_with fail
    refine Calls.mono (l01Str_c hy'.out hn HC6.out _ 2 2 _ hrow2.out (by omega) (by omega) (by omega)) ?_
    rintro e w6 ⟨tl, rfl, htl, hc6, hu6⟩
    obtain ⟨l1, l2, l4⟩ := mNames_ok tl htl
    have hne := mp_ne fr hfr tl htl
    have hvl := Lib.hid (vld_land (id := id) (to := tl) HID.out (show vldPose 0 x y = true from nearP.vld (M := 20) ⟨by omega, by omega, HP.out.2.2⟩ (by omega)) hwt.out p1 l1)
    have U7 := Lib.hid (U6.out.trans hu6)
    have HC7 := Lib.hid hc6
    have m0 : w6.cell? ⟨w4.heap.size, 0, none⟩ = some (.int .i64 id) := (uBox hu6 (w4.heap.size) (by simp; omega) (by simp; omega) _).trans (by go_simp)
    have m1 : w6.cell? ⟨w4.heap.size, 1, none⟩ = some (.int .i64 3) := (uBox hu6 (w4.heap.size) (by simp; omega) (by simp; omega) _).trans (by go_simp)
    have m2 : w6.cell? ⟨w4.heap.size, 2, none⟩ = some (.string fr) := (uBox hu6 (w4.heap.size) (by simp; omega) (by simp; omega) _).trans (by go_simp)
    have m3 : w6.cell? ⟨w4.heap.size, 3, none⟩ = some (.string to) := (uBox hu6 (w4.heap.size) (by simp; omega) (by simp; omega) _).trans (by go_simp)
    have m4 : w6.cell? ⟨w4.heap.size, 4, none⟩ = some (.int .i64 t) := (uBox hu6 (w4.heap.size) (by simp; omega) (by simp; omega) _).trans (by go_simp)
    have m5 : w6.cell? ⟨w4.heap.size, 5, none⟩ = some (.int .i64 x) := (uBox hu6 (w4.heap.size) (by simp; omega) (by simp; omega) _).trans (by go_simp)
    have m6 : w6.cell? ⟨w4.heap.size, 6, none⟩ = some (.int .i64 y) := (uBox hu6 (w4.heap.size) (by simp; omega) (by simp; omega) _).trans (by go_simp)
    have m7 : w6.cell? ⟨w4.heap.size, 7, none⟩ = some (.int .i64 (1 + wt)) := (uBox hu6 (w4.heap.size) (by simp; omega) (by simp; omega) _).trans (by go_simp)
    have mf : ∀ o, w6.frozen? ⟨w4.heap.size, o, none⟩ = false := fun o => (uBoxF hu6 (w4.heap.size) (by simp; omega) (by simp; omega) _).trans (by go_simp)
    have mz : w4.heap.size < w6.heap.size := by have := hu6.size; simp at this; omega
    have s0 : w6.cell? ⟨w.heap.size, 0, none⟩ = some (.int .i64 0) := (uBox hu6 (w.heap.size) (by simp; omega) (by simp; omega) _).trans (by go_simp)
    have s1 : w6.cell? ⟨w.heap.size, 1, none⟩ = some (.int .i64 0) := (uBox hu6 (w.heap.size) (by simp; omega) (by simp; omega) _).trans (by go_simp)
    have s2 : w6.cell? ⟨w.heap.size, 2, none⟩ = some (.string ⟨#[]⟩) := (uBox hu6 (w.heap.size) (by simp; omega) (by simp; omega) _).trans (by go_simp)
    have s3 : w6.cell? ⟨w.heap.size, 3, none⟩ = some (.string ⟨#[]⟩) := (uBox hu6 (w.heap.size) (by simp; omega) (by simp; omega) _).trans (by go_simp)
    have s4 : w6.cell? ⟨w.heap.size, 4, none⟩ = some (.int .i64 0) := (uBox hu6 (w.heap.size) (by simp; omega) (by simp; omega) _).trans (by go_simp)
    have s5 : w6.cell? ⟨w.heap.size, 5, none⟩ = some (.int .i64 0) := (uBox hu6 (w.heap.size) (by simp; omega) (by simp; omega) _).trans (by go_simp)
    have s6 : w6.cell? ⟨w.heap.size, 6, none⟩ = some (.int .i64 0) := (uBox hu6 (w.heap.size) (by simp; omega) (by simp; omega) _).trans (by go_simp)
    have s7 : w6.cell? ⟨w.heap.size, 7, none⟩ = some (.int .i64 0) := (uBox hu6 (w.heap.size) (by simp; omega) (by simp; omega) _).trans (by go_simp)
    have sf : ∀ o, w6.frozen? ⟨w.heap.size, o, none⟩ = false := fun o => (uBoxF hu6 (w.heap.size) (by simp; omega) (by simp; omega) _).trans (by go_simp)
    have sz : w.heap.size < w6.heap.size := by have := hu6.size; simp at this; omega
    clear a0 a1 a2 a3 a4 a5 a6 a7 af az r0 r1 r2 r3 r4 r5 r6 r7 rf rz hc6 hu6 HC6 U6 hrow2 p1 l1 l2 p2 htl hfr
    go_wp2
    exact bodyPost_ret (v := vFactor id 3 fr tl 0 x y (1 + wt)) (by simp [*, results, Try.results22, go_sem]) rfl ⟨3, fr, tl, 0, x, y, 1 + wt, rfl, hvl.out, (by repeat (first | with_reducible exact HC7.out | ((with_reducible refine Cur.set_ ?_ ?_ _); rotate_left; (first | (simp; omega) | (simp) | omega)) | with_reducible refine Cur.alloc_ ?_ _)), (by repeat (first | with_reducible exact U7.out | ((with_reducible refine Upd.set_new ?_ ?_ _); rotate_left; (first | (simp; omega) | (simp) | omega)) | with_reducible refine Upd.alloc_ ?_ _))⟩
  · obtain ⟨o1, o2, o3, o4⟩ := pNames_ok to HTO.out
    go_wp2_with fail
    refine Calls.mono (l16Pose_c hy'.out hn HC4.out) ?_
    rintro e w5 ⟨fr, rfl, hfr, hc5, hu5⟩
    obtain ⟨p1, p2, p3, p4⟩ := pNames_ok fr hfr
    have a0 : w5.cell? ⟨w4.heap.size, 0, none⟩ = some (.int .i64 id) := (uBox hu5 (w4.heap.size) (by simp) (by simp; omega) _).trans (cells_b rfl)
    have a1 : w5.cell? ⟨w4.heap.size, 1, none⟩ = some (.int .i64 4) := (uBox hu5 (w4.heap.size) (by simp) (by simp; omega) _).trans (cells_b rfl)
    have a2 : w5.cell? ⟨w4.heap.size, 2, none⟩ = some (.string ⟨#[]⟩) := (uBox hu5 (w4.heap.size) (by simp) (by simp; omega) _).trans (cells_b rfl)
    have a3 : w5.cell? ⟨w4.heap.size, 3, none⟩ = some (.string to) := (uBox hu5 (w4.heap.size) (by simp) (by simp; omega) _).trans (cells_b rfl)
    have a4 : w5.cell? ⟨w4.heap.size, 4, none⟩ = some (.int .i64 t) := (uBox hu5 (w4.heap.size) (by simp) (by simp; omega) _).trans (cells_b rfl)
    have a5 : w5.cell? ⟨w4.heap.size, 5, none⟩ = some (.int .i64 x) := (uBox hu5 (w4.heap.size) (by simp) (by simp; omega) _).trans (cells_b rfl)
    have a6 : w5.cell? ⟨w4.heap.size, 6, none⟩ = some (.int .i64 y) := (uBox hu5 (w4.heap.size) (by simp) (by simp; omega) _).trans (cells_b rfl)
    have a7 : w5.cell? ⟨w4.heap.size, 7, none⟩ = some (.int .i64 (1 + wt)) := (uBox hu5 (w4.heap.size) (by simp) (by simp; omega) _).trans (cells_b rfl)
    have af : ∀ o, w5.frozen? ⟨w4.heap.size, o, none⟩ = false := fun o => (uBoxF hu5 (w4.heap.size) (by simp) (by simp; omega) _).trans (frozen_a _ _ _ _)
    have az : w4.heap.size < w5.heap.size := by have := hu5.size; simp at this; omega
    have r0 : w5.cell? ⟨w.heap.size, 0, none⟩ = some (.int .i64 0) := (uBox hu5 (w.heap.size) (by simp; omega) (by simp; omega) _).trans (bCell (bAlloc (Below.refl _ _) _) d0)
    have r1 : w5.cell? ⟨w.heap.size, 1, none⟩ = some (.int .i64 0) := (uBox hu5 (w.heap.size) (by simp; omega) (by simp; omega) _).trans (bCell (bAlloc (Below.refl _ _) _) d1)
    have r2 : w5.cell? ⟨w.heap.size, 2, none⟩ = some (.string ⟨#[]⟩) := (uBox hu5 (w.heap.size) (by simp; omega) (by simp; omega) _).trans (bCell (bAlloc (Below.refl _ _) _) d2)
    have r3 : w5.cell? ⟨w.heap.size, 3, none⟩ = some (.string ⟨#[]⟩) := (uBox hu5 (w.heap.size) (by simp; omega) (by simp; omega) _).trans (bCell (bAlloc (Below.refl _ _) _) d3)
    have r4 : w5.cell? ⟨w.heap.size, 4, none⟩ = some (.int .i64 0) := (uBox hu5 (w.heap.size) (by simp; omega) (by simp; omega) _).trans (bCell (bAlloc (Below.refl _ _) _) d4)
    have r5 : w5.cell? ⟨w.heap.size, 5, none⟩ = some (.int .i64 0) := (uBox hu5 (w.heap.size) (by simp; omega) (by simp; omega) _).trans (bCell (bAlloc (Below.refl _ _) _) d5)
    have r6 : w5.cell? ⟨w.heap.size, 6, none⟩ = some (.int .i64 0) := (uBox hu5 (w.heap.size) (by simp; omega) (by simp; omega) _).trans (bCell (bAlloc (Below.refl _ _) _) d6)
    have r7 : w5.cell? ⟨w.heap.size, 7, none⟩ = some (.int .i64 0) := (uBox hu5 (w.heap.size) (by simp; omega) (by simp; omega) _).trans (bCell (bAlloc (Below.refl _ _) _) d7)
    have rf : ∀ o, w5.frozen? ⟨w.heap.size, o, none⟩ = false := fun o => (uBoxF hu5 (w.heap.size) (by simp; omega) (by simp; omega) _).trans (frozen_al z5 (g4 o))
    have rz : w.heap.size < w5.heap.size := by have := hu5.size; simp at this; omega
    have U5 := Lib.hid (U4.trans hu5)
    have HC5 := Lib.hid hc5
    clear d0 d1 d2 d3 d4 d5 d6 d7 g4 hc5 hu5 HC4 HCw UW z5
    cases heq : (fr.toList == to.toList)
    · have hvl := Lib.hid (vld_two (id := id) (k := 4) (by omega) HID.out (HP.out.vld (by omega)) hwt.out p1 o1 heq)
      clear p1 o1 p2 o2
      go_wp2
      exact bodyPost_ret (v := vFactor id 4 fr to t x y (1 + wt)) (by simp [*, results, Try.results22, go_sem]) rfl ⟨4, fr, to, t, x, y, 1 + wt, rfl, hvl.out, (by repeat (first | with_reducible exact HC5.out | ((with_reducible refine Cur.set_ ?_ ?_ _); rotate_left; (first | (simp; omega) | (simp) | omega)) | with_reducible refine Cur.alloc_ ?_ _)), (by repeat (first | with_reducible exact U5.out | ((with_reducible refine Upd.set_new ?_ ?_ _); rotate_left; (first | (simp; omega) | (simp) | omega)) | with_reducible refine Upd.alloc_ ?_ _))⟩
    · have o2' : ((⟨#[112, 52]⟩ : ByteArray).toList == to.toList) = false := by
        rw [Bool.eq_false_iff] at o2 ⊢
        intro h; exact o2 (by rw [beq_iff_eq] at h ⊢; exact h.symm)
      have hvl := Lib.hid (vld_two (id := id) (k := 4) (by omega) HID.out (HP.out.vld (by omega)) hwt.out p4_ok o1 o2')
      clear p1 o1 p2 o2 o2'
      go_wp2
      exact bodyPost_ret (v := vFactor id 4 ⟨#[112, 52]⟩ to t x y (1 + wt)) (by simp [*, results, Try.results22, go_sem]) rfl ⟨4, ⟨#[112, 52]⟩, to, t, x, y, 1 + wt, rfl, hvl.out, (by repeat (first | with_reducible exact HC5.out | ((with_reducible refine Cur.set_ ?_ ?_ _); rotate_left; (first | (simp; omega) | (simp) | omega)) | with_reducible refine Cur.alloc_ ?_ _)), (by repeat (first | with_reducible exact U5.out | ((with_reducible refine Upd.set_new ?_ ?_ _); rotate_left; (first | (simp; omega) | (simp) | omega)) | with_reducible refine Upd.alloc_ ?_ _))⟩
end Go.Proofs.Ytgpmmmfnbphgdaa
