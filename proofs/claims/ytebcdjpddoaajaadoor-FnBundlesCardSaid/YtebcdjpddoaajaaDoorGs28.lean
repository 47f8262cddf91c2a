/- Texts of this proof, one behind the other: Draw3, Draw4, Poses, Reg, Take. -/
import Derived.Deep.RegionLaw
import Derived.BigRegion
import Derived.Deep.Quiet
import Derived.Outline
import Derived.Test.YtebcdjpddoaajaaDoorGs0
import Derived.Test.YtebcdjpddoaajaaDoorGs3
import Derived.Test.YtebcdjpddoaajaaDoorGs5
import Derived.Test.YtebcdjpddoaajaaDoorGs6
import Derived.Test.YtebcdjpddoaajaaDoorGs9
import Derived.Test.YtebcdjpddoaajaaDoorGs10
import Derived.Test.YtebcdjpddoaajaaDoorGs18
import Derived.Test.YtebcdjpddoaajaaDoorGs26
/- The draws of single factors: l01Once, l01Str, l05Draw, l16Pose, l16Draw. -/
namespace Go.Proofs.YtebcdjpddoaajaaDoor
open Go.RowKit
set_option linter.unusedVariables false
set_option linter.unusedSimpArgs false
set_option maxHeartbeats 1000000
set_option maxRecDepth 100000
theorem l01Once_c {W w : World} {b : Nat} {A : Option Addr} {n c : Nat} (hy : Bytes W A n) (hn : n ≤ 1048576) (h : Cur W w b A n c) (m : Int) (h0 : 0 < m) (h1 : m ≤ 256) :
    Calls Tryd.prog 88 #[.pointer (some ⟨b, 0, none⟩), .int .i64 m] w fun e w' => ∃ x, e = rBool x ∧ Cur W w' b A n c ∧ Upd [b] w w' := by
  have HC := Lib.hid h
  have hy' := Lib.hid hy
  clear h hy
  go_enter Tryd.func88, Tryd.ntmps88
  go_wp2_with fail
  refine Calls.mono (l01Below_c hy'.out hn HC.out m h0 h1) ?_
  rintro e w1 ⟨x, rfl, hx0, hx1, hc1, hu1⟩
  go_wp2
  go_ret
  exact ⟨_, rfl, hc1, hu1⟩
theorem l01Str_c {W w : World} {b : Nat} {A : Option Addr} {n c : Nat} (hy : Bytes W A n) (hn : n ≤ 1048576) (h : Cur W w b A n c) (g m cp : Nat) (l : List ByteArray) (hr : RowS w (some ⟨g, 0, none⟩) m l) (hg : g ≠ b) (h0 : 0 < m) (h1 : m ≤ 256) :
    Calls Tryd.prog 91 #[.pointer (some ⟨b, 0, none⟩), .slice (some ⟨g, 0, none⟩) m cp] w fun e w' => ∃ x, e = .returned (.string x) ∧ x ∈ l ∧ Cur W w' b A n c ∧ Upd [b] w w' := by
  have HC := Lib.hid h
  have hy' := Lib.hid hy
  have hr' := Lib.hid hr
  clear h hy hr
  have hmi0 : (0 : Int) < (m : Int) := by omega
  have hmi1 : (m : Int) ≤ 256 := by omega
  go_enter Tryd.func91, Tryd.ntmps91
  go_wp2_with fail
  refine Calls.mono (l01Below_c hy'.out hn HC.out (m : Int) (by omega) (by omega)) ?_
  rintro e w1 ⟨x, rfl, hx0, hx1, hc1, hu1⟩
  obtain ⟨k, rfl⟩ := Int.eq_ofNat_of_zero_le hx0
  have hk : k < m := by omega
  obtain ⟨v, g', off', hv, hA, hcell⟩ := RowS.at_ (hr'.out.upd_ hu1 (fun g2 off2 e => by simp only [Option.some.injEq, Addr.mk.injEq] at e; simp; omega)) hk
  simp only [Option.some.injEq, Addr.mk.injEq, and_true] at hA
  obtain ⟨rfl, rfl⟩ := hA
  rw [Nat.zero_add] at hcell
  go_wp2
  go_ret
  exact ⟨v, rfl, List.mem_of_getElem? hv.out, hc1, hu1⟩
/-- a row of strings, just made -/
theorem str_row (w : World) (l : List ByteArray) : RowS (w.alloc (.cells (l.map Value.string).toArray 9)) (some ⟨w.heap.size, 0, none⟩) l.length l := by
  refine ⟨by simp, fun i cs hi => ⟨w.heap.size, 0, rfl, fun j v hv => ?_⟩⟩
  have e : (w.alloc (.cells (l.map Value.string).toArray 9)).heap[w.heap.size]? = some (.cells (l.map Value.string).toArray 9) := heap_alloc_new w _
  unfold World.cell?
  rw [e]
  rw [List.getElem?_map] at hi
  cases hl : l[i]? with
  | none => rw [hl] at hi; cases hi
  | some s =>
    rw [hl] at hi
    simp only [Option.map_some, Option.some.injEq] at hi
    subst hi
    match j with
    | 0 =>
      simp [strCells] at hv
      subst hv
      simp [hl]
    | j + 1 => simp [strCells] at hv
theorem Cur.set_ {W w : World} {b : Nat} {A : Option Addr} {n c : Nat} (h : Cur W w b A n c) {p : Addr} (hp : b < p.block) (u : Value) : Cur W (w.setCell p u) b A n c :=
  h.keep (bSet h.hB (by have := h.hb; omega) u) (Below.heap_setCell _ _ _ _ (by omega))
/-- a pose near the origin -/
def nearP (M t x y : Int) : Prop := 0 ≤ t ∧ t ≤ 3 ∧ -M ≤ x ∧ x ≤ M ∧ -M ≤ y ∧ y ≤ M
theorem l05Draw_c {W w : World} {b : Nat} {A : Option Addr} {n c : Nat} (hy : Bytes W A n) (hn : n ≤ 1048576) (h : Cur W w b A n c) :
    Calls Tryd.prog 83 #[.pointer (some ⟨b, 0, none⟩)] w fun e w' => ∃ t x y, e = .returned (vPose t x y) ∧ nearP 20 t x y ∧ Cur W w' b A n c ∧ Upd [b] w w' := by
  have hlt := h.lt
  have hy' := Lib.hid hy
  have HC := Lib.hid (h.below (bAlloc (Below.refl _ _) (.cells #[.int .i64 0, .int .i64 0, .int .i64 0] 26)))
  clear h hy
  go_enter Tryd.func83, Tryd.ntmps83
  go_wp2_with fail
  refine Calls.mono (l01Below_c hy'.out hn HC.out 4 (by omega) (by omega)) ?_
  rintro e w1 ⟨t, rfl, ht0, ht1, hc1, hu1⟩
  have HC1 := Lib.hid hc1
  have U1 : Upd [b] w w1 := (Upd.of_below (bAlloc (Below.refl _ _) _)).trans hu1
  have q0 := uBox hu1 w.heap.size (by simp) (by simp; omega)
  have f0 := uBoxF hu1 w.heap.size (by simp) (by simp; omega)
  have z1 : w.heap.size < w1.heap.size := by have := hu1.size; simp at this; omega
  clear hc1 HC
  go_wp2_with fail
  refine Calls.mono (l01Below_c hy'.out hn HC1.out 41 (by omega) (by omega)) ?_
  rintro e w2 ⟨x, rfl, hx0, hx1, hc2, hu2⟩
  have HC2 := Lib.hid hc2
  have U2 := U1.trans hu2
  have q1 := uBox hu2 w.heap.size z1 (by simp; omega)
  have f1 := uBoxF hu2 w.heap.size z1 (by simp; omega)
  have z2 : w.heap.size < w2.heap.size := by have := hu2.size; omega
  clear hc2 HC1
  go_wp2_with fail
  refine Calls.mono (l01Below_c hy'.out hn HC2.out 41 (by omega) (by omega)) ?_
  rintro e w3 ⟨y, rfl, hy0, hy1, hc3, hu3⟩
  have U3 := U2.trans hu3
  have q2 := uBox hu3 w.heap.size z2 (by simp; omega)
  have f2 := uBoxF hu3 w.heap.size z2 (by simp; omega)
  have z3 : w.heap.size < w3.heap.size := by have := hu3.size; omega
  have hc4 := ((hc3.set_ (p := ⟨w.heap.size, 0, none⟩) hlt (.int .i64 t)).set_ (p := ⟨w.heap.size, 1, none⟩) hlt (.int .i64 (x - 20))).set_ (p := ⟨w.heap.size, 2, none⟩) hlt (.int .i64 (y - 20))
  have U4 := ((U3.set_new (p := ⟨w.heap.size, 0, none⟩) (Nat.le_refl _) (.int .i64 t)).set_new (p := ⟨w.heap.size, 1, none⟩) (Nat.le_refl _) (.int .i64 (x - 20))).set_new (p := ⟨w.heap.size, 2, none⟩) (Nat.le_refl _) (.int .i64 (y - 20))
  clear hc3 HC2
  go_wp2
  exact bodyPost_ret (v := vPose t (x - 20) (y - 20)) (by simp [*, results, Tryd.results83, go_sem]) rfl ⟨t, x - 20, y - 20, rfl, ⟨by omega, by omega, by omega, by omega, by omega, by omega⟩, hc4, U4⟩
theorem l16Pose_c {W w : World} {b : Nat} {A : Option Addr} {n c : Nat} (hy : Bytes W A n) (hn : n ≤ 1048576) (h : Cur W w b A n c) :
    Calls Tryd.prog 90 #[.pointer (some ⟨b, 0, none⟩)] w fun e w' => ∃ x, e = .returned (.string x) ∧ x ∈ [(⟨#[112, 48]⟩ : ByteArray), ⟨#[112, 49]⟩, ⟨#[112, 50]⟩, ⟨#[112, 51]⟩] ∧ Cur W w' b A n c ∧ Upd [b] w w' := by
  have hlt := h.lt
  have hy' := Lib.hid hy
  have HC := Lib.hid (h.below (bAlloc (Below.refl _ _) (.cells #[.string ⟨#[112, 48]⟩, .string ⟨#[112, 49]⟩, .string ⟨#[112, 50]⟩, .string ⟨#[112, 51]⟩] 9)))
  have hrow := Lib.hid (str_row w [(⟨#[112, 48]⟩ : ByteArray), ⟨#[112, 49]⟩, ⟨#[112, 50]⟩, ⟨#[112, 51]⟩])
  clear h hy
  go_enter Tryd.func90, Tryd.ntmps90
  go_wp2_with fail
  refine Calls.mono (l01Str_c hy'.out hn HC.out _ 4 4 _ hrow.out (by omega) (by omega) (by omega)) ?_
  rintro e w1 ⟨x, rfl, hx, hc1, hu1⟩
  have HX := Lib.hid hx
  clear hx
  go_wp2
  go_ret
  exact ⟨x, rfl, HX.out, hc1, (Upd.of_below (bAlloc (Below.refl _ _) _)).trans hu1⟩
end Go.Proofs.YtebcdjpddoaajaaDoor

/- l16Draw: a valid factor. -/
namespace Go.Proofs.YtebcdjpddoaajaaDoor
open Go.RowKit
set_option linter.unusedVariables false
set_option linter.unusedSimpArgs false
set_option maxHeartbeats 1000000
set_option maxRecDepth 100000
abbrev pNames : List ByteArray := [(⟨#[112, 48]⟩ : ByteArray), ⟨#[112, 49]⟩, ⟨#[112, 50]⟩, ⟨#[112, 51]⟩]
abbrev mNames : List ByteArray := [(⟨#[109, 48]⟩ : ByteArray), ⟨#[109, 49]⟩]
theorem pNames_ok : ∀ s ∈ pNames, isPoseNm s = true ∧ (s.toList == (⟨#[112, 52]⟩ : ByteArray).toList) = false ∧ s.toList.isEmpty = false ∧ s.size = 2 := by decide +kernel
theorem mNames_ok : ∀ s ∈ mNames, isLandNm s = true ∧ (s.toList == (⟨#[112, 52]⟩ : ByteArray).toList) = false ∧ s.size = 2 := by decide +kernel
theorem mp_ne : ∀ s ∈ pNames, ∀ t ∈ mNames, (s.toList == t.toList) = false := by decide +kernel
theorem p4_ok : isPoseNm (⟨#[112, 52]⟩ : ByteArray) = true := by decide +kernel
theorem nearP.vld {M t x y : Int} (h : nearP M t x y) (hM : M ≤ 1000000) : vldPose t x y = true := by
  obtain ⟨h1, h2, h3, h4, h5, h6⟩ := h
  simp only [vldPose, Bool.and_eq_true]
  exact ⟨inR_iff.2 ⟨h1, h2⟩, inR_iff.2 ⟨by omega, by omega⟩, inR_iff.2 ⟨by omega, by omega⟩⟩
/-- a valid factor, out of its parts -/
theorem vld_prior {id t x y wt : Int} {to : ByteArray} (h1 : inR id 0 99999 = true) (h2 : vldPose t x y = true) (h3 : inR wt 1 9999 = true) (h4 : isPoseNm to = true) : vldFactor ⟨id, 1, ⟨#[]⟩, to, ⟨t, x, y⟩, wt⟩ = true := by
  have e : (⟨#[]⟩ : ByteArray).toList.isEmpty = true := by decide +kernel
  simp [vldFactor, vldF, h1, h2, h3, h4, e]
theorem vld_two {id k t x y wt : Int} {fr to : ByteArray} (hk : k = 2 ∨ k = 4) (h1 : inR id 0 99999 = true) (h2 : vldPose t x y = true) (h3 : inR wt 1 9999 = true) (h4 : isPoseNm fr = true) (h5 : isPoseNm to = true) (h6 : (fr.toList == to.toList) = false) : vldFactor ⟨id, k, fr, to, ⟨t, x, y⟩, wt⟩ = true := by
  have hk1 : ¬ k = 1 := by omega
  simp only [vldFactor, vldF, h1, h2, h3, h4, h5, h6, hk1, hk, if_false, if_true]; rfl
theorem vld_land {id x y wt : Int} {fr to : ByteArray} (h1 : inR id 0 99999 = true) (h2 : vldPose 0 x y = true) (h3 : inR wt 1 9999 = true) (h4 : isPoseNm fr = true) (h5 : isLandNm to = true) : vldFactor ⟨id, 3, fr, to, ⟨0, x, y⟩, wt⟩ = true := by
  simp [vldFactor, vldF, h1, h2, h3, h4, h5]
theorem cells_b {w : World} {cs : Array Value} {t : TypeId} {k : Nat} {v : Value} (h : cs[k]? = some v) : (w.alloc (.cells cs t)).cell? ⟨w.heap.size, k, none⟩ = some v := by
  have e : (w.alloc (.cells cs t)).heap[w.heap.size]? = some (.cells cs t) := heap_alloc_new w _
  unfold World.cell?
  rw [e]
  exact h
theorem frozen_b (w : World) (cs : Array Value) (t : TypeId) (o : Obj) (k : Nat) : ((w.alloc (.cells cs t)).alloc o).frozen? ⟨w.heap.size, k, none⟩ = false := by
  have e : ((w.alloc (.cells cs t)).alloc o).heap[w.heap.size]? = some (.cells cs t) := ((bAlloc (Below.refl (w.alloc (.cells cs t)).heap.size (w.alloc (.cells cs t))) o).block w.heap.size (by simp)).trans (heap_alloc_new w _)
  unfold World.frozen?
  rw [e]
  rfl
theorem Cur.alloc_ {W w : World} {b : Nat} {A : Option Addr} {n c : Nat} (h : Cur W w b A n c) (o : Obj) : Cur W (w.alloc o) b A n c := h.below (bAlloc (Below.refl _ _) o)
theorem frozen_a (w : World) (cs : Array Value) (t : TypeId) (k : Nat) : (w.alloc (.cells cs t)).frozen? ⟨w.heap.size, k, none⟩ = false := by
  have e : (w.alloc (.cells cs t)).heap[w.heap.size]? = some (.cells cs t) := heap_alloc_new w _
  unfold World.frozen?
  rw [e]
  rfl
theorem frozen_al {w : World} {o : Obj} {g k : Nat} (h : g < w.heap.size) (hf : w.frozen? ⟨g, k, none⟩ = false) : (w.alloc o).frozen? ⟨g, k, none⟩ = false := ((bAlloc (Below.refl w.heap.size w) o).frozen (p := ⟨g, k, none⟩) h).trans hf
theorem pick_row' (w : World) (g : Nat) (hg : g = w.heap.size) (a0 a1 a2 a3 a4 : Int) : RowI (w.alloc (.cells #[.int .i64 a0, .int .i64 a1, .int .i64 a2, .int .i64 a3, .int .i64 a4] 3)) (some ⟨g, 0, none⟩) 5 [a0, a1, a2, a3, a4] := by subst hg; exact pick_row w a0 a1 a2 a3 a4
theorem str_row' (w : World) (g : Nat) (hg : g = w.heap.size) (l : List ByteArray) : RowS (w.alloc (.cells (l.map Value.string).toArray 9)) (some ⟨g, 0, none⟩) l.length l := by subst hg; exact str_row w l
theorem l16Draw_c {W w : World} {b : Nat} {A : Option Addr} {n c : Nat} (hy : Bytes W A n) (hn : n ≤ 1048576) (h : Cur W w b A n c) (id : Int) (hid : inR id 0 99999 = true) :
    Calls Tryd.prog 47 #[.pointer (some ⟨b, 0, none⟩), .int .i64 id] w fun e w' => ∃ k fr to t x y wt, e = .returned (vFactor id k fr to t x y wt) ∧ vldFactor ⟨id, k, fr, to, ⟨t, x, y⟩, wt⟩ = true ∧ Cur W w' b A n c ∧ Upd [b] w w' := by
  have hlt := h.lt
  have hy' := Lib.hid hy
  have hz : Below w.heap.size w (w.alloc (.cells #[.int .i64 0, .int .i64 0, .string ⟨#[]⟩, .string ⟨#[]⟩, .int .i64 0, .int .i64 0, .int .i64 0, .int .i64 0] 28)) := bAlloc (Below.refl _ _) _
  have hc0 := h.below hz
  have HC := Lib.hid (hc0.below (bAlloc (Below.refl _ _) (.cells #[.int .i64 1, .int .i64 2, .int .i64 2, .int .i64 3, .int .i64 4] 3)))
  have hrow := Lib.hid (pick_row' (w.alloc (.cells #[.int .i64 0, .int .i64 0, .string ⟨#[]⟩, .string ⟨#[]⟩, .int .i64 0, .int .i64 0, .int .i64 0, .int .i64 0] 28)) (w.heap.size + 1) (by simp) 1 2 2 3 4)
  have HID := Lib.hid hid
  clear h hy hc0 hz hid
  go_enter Tryd.func47, Tryd.ntmps47
  go_wp2_with fail
  refine Calls.mono (l01Pick_c hy'.out hn HC.out _ 5 5 _ hrow.out (by simp; omega) (by omega) (by omega)) ?_
  rintro e w1 ⟨k, rfl, hk, hc1, hu1⟩
  have HC1 := Lib.hid hc1
  have U1 : Upd [b] w w1 := (Upd.of_below (bAlloc (bAlloc (Below.refl _ _) _) _)).trans hu1
  have q1 := uBox hu1 w.heap.size (by simp; omega) (by simp; omega)
  have f1 := uBoxF hu1 w.heap.size (by simp; omega) (by simp; omega)
  have z1 : w.heap.size + 1 < w1.heap.size := by have := hu1.size; simp at this; omega
  have HK := Lib.hid hk
  clear hc1 HC hrow hu1 hk
  go_wp2_with fail
  refine Calls.mono (l16Pose_c hy'.out hn HC1.out) ?_
  rintro e w2 ⟨to, rfl, hto, hc2, hu2⟩
  have HTO := Lib.hid hto
  have HC2 := Lib.hid hc2
  have U2 := U1.trans hu2
  have q2 := uBox hu2 w.heap.size (by omega) (by simp; omega)
  have f2 := uBoxF hu2 w.heap.size (by omega) (by simp; omega)
  have z2 : w.heap.size + 1 < w2.heap.size := by have := hu2.size; omega
  clear hc2 HC1 hu2 hto
  go_wp2_with fail
  refine Calls.mono (l05Draw_c hy'.out hn HC2.out) ?_
  rintro e w3 ⟨t, x, y, rfl, hp, hc3, hu3⟩
  have HP := Lib.hid hp
  have HC3 := Lib.hid hc3
  have U3 := U2.trans hu3
  have q3 := uBox hu3 w.heap.size (by omega) (by simp; omega)
  have f3 := uBoxF hu3 w.heap.size (by omega) (by simp; omega)
  have z3 : w.heap.size + 1 < w3.heap.size := by have := hu3.size; omega
  clear hc3 HC2 hu3 hp
  go_wp2_with fail
  refine Calls.mono (l01Below_c hy'.out hn HC3.out 9 (by omega) (by omega)) ?_
  rintro e w4 ⟨wt, rfl, hw0, hw1, hc4, hu4⟩
  have HC4 := Lib.hid (hc4.below (bAlloc (Below.refl _ _) (.cells #[.int .i64 id, .int .i64 k, .string ⟨#[]⟩, .string to, .int .i64 t, .int .i64 x, .int .i64 y, .int .i64 (1 + wt)] 28)))
  have U4 : Upd [b] w (w4.alloc (.cells #[.int .i64 id, .int .i64 k, .string ⟨#[]⟩, .string to, .int .i64 t, .int .i64 x, .int .i64 y, .int .i64 (1 + wt)] 28)) := (U3.trans hu4).alloc_ _
  have q4 := uBox hu4 w.heap.size (by omega) (by simp; omega)
  have f4 := uBoxF hu4 w.heap.size (by omega) (by simp; omega)
  have z4 : w.heap.size + 1 < w4.heap.size := by have := hu4.size; omega
  have hwt := Lib.hid (inR_iff.2 (show 1 ≤ 1 + wt ∧ 1 + wt ≤ 9999 from ⟨by omega, by omega⟩))
  have s4 : ∀ (j : Nat) (v : Value), (#[.int .i64 0, .int .i64 0, .string ⟨#[]⟩, .string ⟨#[]⟩, .int .i64 0, .int .i64 0, .int .i64 0, .int .i64 0] : Array Value)[j]? = some v → w4.cell? ⟨w.heap.size, j, none⟩ = some v := fun j v hv => by
    rw [q4, q3, q2, q1]
    exact bCell (bAlloc (Below.refl _ _) _) (cells_b hv)
  have d0 := s4 0 _ rfl; have d1 := s4 1 _ rfl; have d2 := s4 2 _ rfl; have d3 := s4 3 _ rfl
  have d4 := s4 4 _ rfl; have d5 := s4 5 _ rfl; have d6 := s4 6 _ rfl; have d7 := s4 7 _ rfl
  have g4 : ∀ o, w4.frozen? ⟨w.heap.size, o, none⟩ = false := fun o => by rw [f4, f3, f2, f1]; exact frozen_b _ _ _ _ _
  have z5 : w.heap.size < w4.heap.size := by omega
  have U4w := U3.trans hu4
  have hcw := hc4
  clear s4 q1 q2 q3 q4 f1 f2 f3 f4 z1 z2 z3 hc4 HC3 hu4
  have hkk : k = 1 ∨ k = 2 ∨ k = 3 ∨ k = 4 := by have := HK.out; simp at this; omega
  have UW := Lib.hid U4w
  have HCw := Lib.hid hcw
  clear U4w hcw HK
  rcases hkk with rfl | rfl | rfl | rfl
  · obtain ⟨o1, o2, o3, o4⟩ := pNames_ok to HTO.out
    have hne : (([] : List UInt8) == to.toList) = false := by
      cases h : to.toList with
      | nil => rw [h] at o3; cases o3
      | cons a l => rfl
    have hvl := Lib.hid (vld_prior (id := id) (to := to) HID.out (HP.out.vld (by omega)) hwt.out o1)
    clear o1 o2
    go_wp2
    exact bodyPost_ret (v := vFactor id 1 ⟨#[]⟩ to t x y (1 + wt)) (by simp [*, results, Tryd.results47, go_sem]) rfl ⟨1, ⟨#[]⟩, to, t, x, y, 1 + wt, rfl, hvl.out, (by repeat (first | with_reducible exact HCw.out | ((with_reducible refine Cur.set_ ?_ ?_ _); rotate_left; (first | (simp; omega) | (simp) | omega)) | with_reducible refine Cur.alloc_ ?_ _)), (by repeat (first | with_reducible exact UW.out | ((with_reducible refine Upd.set_new ?_ ?_ _); rotate_left; (first | (simp; omega) | (simp) | omega)) | with_reducible refine Upd.alloc_ ?_ _))⟩
  · obtain ⟨o1, o2, o3, o4⟩ := pNames_ok to HTO.out
    go_wp2_with fail
    refine Calls.mono (l16Pose_c hy'.out hn HC4.out) ?_
    rintro e w5 ⟨fr, rfl, hfr, hc5, hu5⟩
    obtain ⟨p1, p2, p3, p4⟩ := pNames_ok fr hfr
    have a0 : w5.cell? ⟨w4.heap.size, 0, none⟩ = some (.int .i64 id) := (uBox hu5 (w4.heap.size) (by simp) (by simp; omega) _).trans (cells_b rfl)
    have a1 : w5.cell? ⟨w4.heap.size, 1, none⟩ = some (.int .i64 2) := (uBox hu5 (w4.heap.size) (by simp) (by simp; omega) _).trans (cells_b rfl)
    have a2 : w5.cell? ⟨w4.heap.size, 2, none⟩ = some (.string ⟨#[]⟩) := (uBox hu5 (w4.heap.size) (by simp) (by simp; omega) _).trans (cells_b rfl)
    have a3 : w5.cell? ⟨w4.heap.size, 3, none⟩ = some (.string to) := (uBox hu5 (w4.heap.size) (by simp) (by simp; omega) _).trans (cells_b rfl)
    have a4 : w5.cell? ⟨w4.heap.size, 4, none⟩ = some (.int .i64 t) := (uBox hu5 (w4.heap.size) (by simp) (by simp; omega) _).trans (cells_b rfl)
    have a5 : w5.cell? ⟨w4.heap.size, 5, none⟩ = some (.int .i64 x) := (uBox hu5 (w4.heap.size) (by simp) (by simp; omega) _).trans (cells_b rfl)
    have a6 : w5.cell? ⟨w4.heap.size, 6, none⟩ = some (.int .i64 y) := (uBox hu5 (w4.heap.size) (by simp) (by simp; omega) _).trans (cells_b rfl)
    have a7 : w5.cell? ⟨w4.heap.size, 7, none⟩ = some (.int .i64 (1 + wt)) := (uBox hu5 (w4.heap.size) (by simp) (by simp; omega) _).trans (cells_b rfl)
    have af : ∀ o, w5.frozen? ⟨w4.heap.size, o, none⟩ = false := fun o => (uBoxF hu5 (w4.heap.size) (by simp) (by simp; omega) _).trans (frozen_a _ _ _ _)
    have az : w4.heap.size < w5.heap.size := by have := hu5.size; simp at this; omega
    have r0 : w5.cell? ⟨w.heap.size, 0, none⟩ = some (.int .i64 0) := (uBox hu5 (w.heap.size) (by simp; omega) (by simp; omega) _).trans (bCell (bAlloc (Below.refl _ _) _) d0)
    have r1 : w5.cell? ⟨w.heap.size, 1, none⟩ = some (.int .i64 0) := (uBox hu5 (w.heap.size) (by simp; omega) (by simp; omega) _).trans (bCell (bAlloc (Below.refl _ _) _) d1)
    have r2 : w5.cell? ⟨w.heap.size, 2, none⟩ = some (.string ⟨#[]⟩) := (uBox hu5 (w.heap.size) (by simp; omega) (by simp; omega) _).trans (bCell (bAlloc (Below.refl _ _) _) d2)
    have r3 : w5.cell? ⟨w.heap.size, 3, none⟩ = some (.string ⟨#[]⟩) := (uBox hu5 (w.heap.size) (by simp; omega) (by simp; omega) _).trans (bCell (bAlloc (Below.refl _ _) _) d3)
    have r4 : w5.cell? ⟨w.heap.size, 4, none⟩ = some (.int .i64 0) := (uBox hu5 (w.heap.size) (by simp; omega) (by simp; omega) _).trans (bCell (bAlloc (Below.refl _ _) _) d4)
    have r5 : w5.cell? ⟨w.heap.size, 5, none⟩ = some (.int .i64 0) := (uBox hu5 (w.heap.size) (by simp; omega) (by simp; omega) _).trans (bCell (bAlloc (Below.refl _ _) _) d5)
    have r6 : w5.cell? ⟨w.heap.size, 6, none⟩ = some (.int .i64 0) := (uBox hu5 (w.heap.size) (by simp; omega) (by simp; omega) _).trans (bCell (bAlloc (Below.refl _ _) _) d6)
    have r7 : w5.cell? ⟨w.heap.size, 7, none⟩ = some (.int .i64 0) := (uBox hu5 (w.heap.size) (by simp; omega) (by simp; omega) _).trans (bCell (bAlloc (Below.refl _ _) _) d7)
    have rf : ∀ o, w5.frozen? ⟨w.heap.size, o, none⟩ = false := fun o => (uBoxF hu5 (w.heap.size) (by simp; omega) (by simp; omega) _).trans (frozen_al z5 (g4 o))
    have rz : w.heap.size < w5.heap.size := by have := hu5.size; simp at this; omega
    have U5 := Lib.hid (U4.trans hu5)
    have HC5 := Lib.hid hc5
    clear d0 d1 d2 d3 d4 d5 d6 d7 g4 hc5 hu5 HC4 HCw UW z5
    cases heq : (fr.toList == to.toList)
    · have hvl := Lib.hid (vld_two (id := id) (k := 2) (by omega) HID.out (HP.out.vld (by omega)) hwt.out p1 o1 heq)
      clear p1 o1 p2 o2
      go_wp2
      exact bodyPost_ret (v := vFactor id 2 fr to t x y (1 + wt)) (by simp [*, results, Tryd.results47, go_sem]) rfl ⟨2, fr, to, t, x, y, 1 + wt, rfl, hvl.out, (by repeat (first | with_reducible exact HC5.out | ((with_reducible refine Cur.set_ ?_ ?_ _); rotate_left; (first | (simp; omega) | (simp) | omega)) | with_reducible refine Cur.alloc_ ?_ _)), (by repeat (first | with_reducible exact U5.out | ((with_reducible refine Upd.set_new ?_ ?_ _); rotate_left; (first | (simp; omega) | (simp) | omega)) | with_reducible refine Upd.alloc_ ?_ _))⟩
    · have o2' : ((⟨#[112, 52]⟩ : ByteArray).toList == to.toList) = false := by
        rw [Bool.eq_false_iff] at o2 ⊢
        intro h; exact o2 (by rw [beq_iff_eq] at h ⊢; exact h.symm)
      have hvl := Lib.hid (vld_two (id := id) (k := 2) (by omega) HID.out (HP.out.vld (by omega)) hwt.out p4_ok o1 o2')
      clear p1 o1 p2 o2 o2'
      go_wp2
      exact bodyPost_ret (v := vFactor id 2 ⟨#[112, 52]⟩ to t x y (1 + wt)) (by simp [*, results, Tryd.results47, go_sem]) rfl ⟨2, ⟨#[112, 52]⟩, to, t, x, y, 1 + wt, rfl, hvl.out, (by repeat (first | with_reducible exact HC5.out | ((with_reducible refine Cur.set_ ?_ ?_ _); rotate_left; (first | (simp; omega) | (simp) | omega)) | with_reducible refine Cur.alloc_ ?_ _)), (by repeat (first | with_reducible exact U5.out | ((with_reducible refine Upd.set_new ?_ ?_ _); rotate_left; (first | (simp; omega) | (simp) | omega)) | with_reducible refine Upd.alloc_ ?_ _))⟩
  · obtain ⟨o1, o2, o3, o4⟩ := pNames_ok to HTO.out
    go_wp2_with fail
    refine Calls.mono (l16Pose_c hy'.out hn HC4.out) ?_
    rintro e w5 ⟨fr, rfl, hfr, hc5, hu5⟩
    obtain ⟨p1, p2, p3, p4⟩ := pNames_ok fr hfr
    have a0 : w5.cell? ⟨w4.heap.size, 0, none⟩ = some (.int .i64 id) := (uBox hu5 (w4.heap.size) (by simp) (by simp; omega) _).trans (cells_b rfl)
    have a1 : w5.cell? ⟨w4.heap.size, 1, none⟩ = some (.int .i64 3) := (uBox hu5 (w4.heap.size) (by simp) (by simp; omega) _).trans (cells_b rfl)
    have a2 : w5.cell? ⟨w4.heap.size, 2, none⟩ = some (.string ⟨#[]⟩) := (uBox hu5 (w4.heap.size) (by simp) (by simp; omega) _).trans (cells_b rfl)
    have a3 : w5.cell? ⟨w4.heap.size, 3, none⟩ = some (.string to) := (uBox hu5 (w4.heap.size) (by simp) (by simp; omega) _).trans (cells_b rfl)
    have a4 : w5.cell? ⟨w4.heap.size, 4, none⟩ = some (.int .i64 t) := (uBox hu5 (w4.heap.size) (by simp) (by simp; omega) _).trans (cells_b rfl)
    have a5 : w5.cell? ⟨w4.heap.size, 5, none⟩ = some (.int .i64 x) := (uBox hu5 (w4.heap.size) (by simp) (by simp; omega) _).trans (cells_b rfl)
    have a6 : w5.cell? ⟨w4.heap.size, 6, none⟩ = some (.int .i64 y) := (uBox hu5 (w4.heap.size) (by simp) (by simp; omega) _).trans (cells_b rfl)
    have a7 : w5.cell? ⟨w4.heap.size, 7, none⟩ = some (.int .i64 (1 + wt)) := (uBox hu5 (w4.heap.size) (by simp) (by simp; omega) _).trans (cells_b rfl)
    have af : ∀ o, w5.frozen? ⟨w4.heap.size, o, none⟩ = false := fun o => (uBoxF hu5 (w4.heap.size) (by simp) (by simp; omega) _).trans (frozen_a _ _ _ _)
    have az : w4.heap.size < w5.heap.size := by have := hu5.size; simp at this; omega
    have r0 : w5.cell? ⟨w.heap.size, 0, none⟩ = some (.int .i64 0) := (uBox hu5 (w.heap.size) (by simp; omega) (by simp; omega) _).trans (bCell (bAlloc (Below.refl _ _) _) d0)
    have r1 : w5.cell? ⟨w.heap.size, 1, none⟩ = some (.int .i64 0) := (uBox hu5 (w.heap.size) (by simp; omega) (by simp; omega) _).trans (bCell (bAlloc (Below.refl _ _) _) d1)
    have r2 : w5.cell? ⟨w.heap.size, 2, none⟩ = some (.string ⟨#[]⟩) := (uBox hu5 (w.heap.size) (by simp; omega) (by simp; omega) _).trans (bCell (bAlloc (Below.refl _ _) _) d2)
    have r3 : w5.cell? ⟨w.heap.size, 3, none⟩ = some (.string ⟨#[]⟩) := (uBox hu5 (w.heap.size) (by simp; omega) (by simp; omega) _).trans (bCell (bAlloc (Below.refl _ _) _) d3)
    have r4 : w5.cell? ⟨w.heap.size, 4, none⟩ = some (.int .i64 0) := (uBox hu5 (w.heap.size) (by simp; omega) (by simp; omega) _).trans (bCell (bAlloc (Below.refl _ _) _) d4)
    have r5 : w5.cell? ⟨w.heap.size, 5, none⟩ = some (.int .i64 0) := (uBox hu5 (w.heap.size) (by simp; omega) (by simp; omega) _).trans (bCell (bAlloc (Below.refl _ _) _) d5)
    have r6 : w5.cell? ⟨w.heap.size, 6, none⟩ = some (.int .i64 0) := (uBox hu5 (w.heap.size) (by simp; omega) (by simp; omega) _).trans (bCell (bAlloc (Below.refl _ _) _) d6)
    have r7 : w5.cell? ⟨w.heap.size, 7, none⟩ = some (.int .i64 0) := (uBox hu5 (w.heap.size) (by simp; omega) (by simp; omega) _).trans (bCell (bAlloc (Below.refl _ _) _) d7)
    have rf : ∀ o, w5.frozen? ⟨w.heap.size, o, none⟩ = false := fun o => (uBoxF hu5 (w.heap.size) (by simp; omega) (by simp; omega) _).trans (frozen_al z5 (g4 o))
    have rz : w.heap.size < w5.heap.size := by have := hu5.size; simp at this; omega
    have U5 := Lib.hid (U4.trans hu5)
    have HC5 := Lib.hid hc5
    clear d0 d1 d2 d3 d4 d5 d6 d7 g4 hc5 hu5 HC4 HCw UW z5
    have hrow2 := Lib.hid (str_row' (w5.setCell ⟨w4.heap.size, 2, none⟩ (.string fr)) w5.heap.size (by simp) mNames)
    have HC6 := Lib.hid ((HC5.out.set_ (p := ⟨w4.heap.size, 2, none⟩) (by simp; omega) (.string fr)).alloc_ (.cells #[.string ⟨#[109, 48]⟩, .string ⟨#[109, 49]⟩] 9))
    have U6 := Lib.hid ((U5.out.set_new (p := ⟨w4.heap.size, 2, none⟩) (by simp; omega) (.string fr)).alloc_ (.cells #[.string ⟨#[109, 48]⟩, .string ⟨#[109, 49]⟩] 9))
    clear HC5 U5
    go_wp2_with fail
    refine Calls.mono (l01Str_c hy'.out hn HC6.out _ 2 2 _ hrow2.out (by omega) (by omega) (by omega)) ?_
    rintro e w6 ⟨tl, rfl, htl, hc6, hu6⟩
    obtain ⟨l1, l2, l4⟩ := mNames_ok tl htl
    have hne := mp_ne fr hfr tl htl
    have hvl := Lib.hid (vld_land (id := id) (to := tl) HID.out (show vldPose 0 x y = true from nearP.vld (M := 20) ⟨by omega, by omega, HP.out.2.2⟩ (by omega)) hwt.out p1 l1)
    have U7 := Lib.hid (U6.out.trans hu6)
    have HC7 := Lib.hid hc6
    have m0 : w6.cell? ⟨w4.heap.size, 0, none⟩ = some (.int .i64 id) := (uBox hu6 (w4.heap.size) (by simp; omega) (by simp; omega) _).trans (by go_simp)
    have m1 : w6.cell? ⟨w4.heap.size, 1, none⟩ = some (.int .i64 3) := (uBox hu6 (w4.heap.size) (by simp; omega) (by simp; omega) _).trans (by go_simp)
    have m2 : w6.cell? ⟨w4.heap.size, 2, none⟩ = some (.string fr) := (uBox hu6 (w4.heap.size) (by simp; omega) (by simp; omega) _).trans (by go_simp)
    have m3 : w6.cell? ⟨w4.heap.size, 3, none⟩ = some (.string to) := (uBox hu6 (w4.heap.size) (by simp; omega) (by simp; omega) _).trans (by go_simp)
    have m4 : w6.cell? ⟨w4.heap.size, 4, none⟩ = some (.int .i64 t) := (uBox hu6 (w4.heap.size) (by simp; omega) (by simp; omega) _).trans (by go_simp)
    have m5 : w6.cell? ⟨w4.heap.size, 5, none⟩ = some (.int .i64 x) := (uBox hu6 (w4.heap.size) (by simp; omega) (by simp; omega) _).trans (by go_simp)
    have m6 : w6.cell? ⟨w4.heap.size, 6, none⟩ = some (.int .i64 y) := (uBox hu6 (w4.heap.size) (by simp; omega) (by simp; omega) _).trans (by go_simp)
    have m7 : w6.cell? ⟨w4.heap.size, 7, none⟩ = some (.int .i64 (1 + wt)) := (uBox hu6 (w4.heap.size) (by simp; omega) (by simp; omega) _).trans (by go_simp)
    have mf : ∀ o, w6.frozen? ⟨w4.heap.size, o, none⟩ = false := fun o => (uBoxF hu6 (w4.heap.size) (by simp; omega) (by simp; omega) _).trans (by go_simp)
    have mz : w4.heap.size < w6.heap.size := by have := hu6.size; simp at this; omega
    have s0 : w6.cell? ⟨w.heap.size, 0, none⟩ = some (.int .i64 0) := (uBox hu6 (w.heap.size) (by simp; omega) (by simp; omega) _).trans (by go_simp)
    have s1 : w6.cell? ⟨w.heap.size, 1, none⟩ = some (.int .i64 0) := (uBox hu6 (w.heap.size) (by simp; omega) (by simp; omega) _).trans (by go_simp)
    have s2 : w6.cell? ⟨w.heap.size, 2, none⟩ = some (.string ⟨#[]⟩) := (uBox hu6 (w.heap.size) (by simp; omega) (by simp; omega) _).trans (by go_simp)
    have s3 : w6.cell? ⟨w.heap.size, 3, none⟩ = some (.string ⟨#[]⟩) := (uBox hu6 (w.heap.size) (by simp; omega) (by simp; omega) _).trans (by go_simp)
    have s4 : w6.cell? ⟨w.heap.size, 4, none⟩ = some (.int .i64 0) := (uBox hu6 (w.heap.size) (by simp; omega) (by simp; omega) _).trans (by go_simp)
    have s5 : w6.cell? ⟨w.heap.size, 5, none⟩ = some (.int .i64 0) := (uBox hu6 (w.heap.size) (by simp; omega) (by simp; omega) _).trans (by go_simp)
    have s6 : w6.cell? ⟨w.heap.size, 6, none⟩ = some (.int .i64 0) := (uBox hu6 (w.heap.size) (by simp; omega) (by simp; omega) _).trans (by go_simp)
    have s7 : w6.cell? ⟨w.heap.size, 7, none⟩ = some (.int .i64 0) := (uBox hu6 (w.heap.size) (by simp; omega) (by simp; omega) _).trans (by go_simp)
    have sf : ∀ o, w6.frozen? ⟨w.heap.size, o, none⟩ = false := fun o => (uBoxF hu6 (w.heap.size) (by simp; omega) (by simp; omega) _).trans (by go_simp)
    have sz : w.heap.size < w6.heap.size := by have := hu6.size; simp at this; omega
    clear a0 a1 a2 a3 a4 a5 a6 a7 af az r0 r1 r2 r3 r4 r5 r6 r7 rf rz hc6 hu6 HC6 U6 hrow2 p1 l1 l2 p2 htl hfr
    go_wp2
    exact bodyPost_ret (v := vFactor id 3 fr tl 0 x y (1 + wt)) (by simp [*, results, Tryd.results47, go_sem]) rfl ⟨3, fr, tl, 0, x, y, 1 + wt, rfl, hvl.out, (by repeat (first | with_reducible exact HC7.out | ((with_reducible refine Cur.set_ ?_ ?_ _); rotate_left; (first | (simp; omega) | (simp) | omega)) | with_reducible refine Cur.alloc_ ?_ _)), (by repeat (first | with_reducible exact U7.out | ((with_reducible refine Upd.set_new ?_ ?_ _); rotate_left; (first | (simp; omega) | (simp) | omega)) | with_reducible refine Upd.alloc_ ?_ _))⟩
  · obtain ⟨o1, o2, o3, o4⟩ := pNames_ok to HTO.out
    go_wp2_with fail
    refine Calls.mono (l16Pose_c hy'.out hn HC4.out) ?_
    rintro e w5 ⟨fr, rfl, hfr, hc5, hu5⟩
    obtain ⟨p1, p2, p3, p4⟩ := pNames_ok fr hfr
    have a0 : w5.cell? ⟨w4.heap.size, 0, none⟩ = some (.int .i64 id) := (uBox hu5 (w4.heap.size) (by simp) (by simp; omega) _).trans (cells_b rfl)
    have a1 : w5.cell? ⟨w4.heap.size, 1, none⟩ = some (.int .i64 4) := (uBox hu5 (w4.heap.size) (by simp) (by simp; omega) _).trans (cells_b rfl)
    have a2 : w5.cell? ⟨w4.heap.size, 2, none⟩ = some (.string ⟨#[]⟩) := (uBox hu5 (w4.heap.size) (by simp) (by simp; omega) _).trans (cells_b rfl)
    have a3 : w5.cell? ⟨w4.heap.size, 3, none⟩ = some (.string to) := (uBox hu5 (w4.heap.size) (by simp) (by simp; omega) _).trans (cells_b rfl)
    have a4 : w5.cell? ⟨w4.heap.size, 4, none⟩ = some (.int .i64 t) := (uBox hu5 (w4.heap.size) (by simp) (by simp; omega) _).trans (cells_b rfl)
    have a5 : w5.cell? ⟨w4.heap.size, 5, none⟩ = some (.int .i64 x) := (uBox hu5 (w4.heap.size) (by simp) (by simp; omega) _).trans (cells_b rfl)
    have a6 : w5.cell? ⟨w4.heap.size, 6, none⟩ = some (.int .i64 y) := (uBox hu5 (w4.heap.size) (by simp) (by simp; omega) _).trans (cells_b rfl)
    have a7 : w5.cell? ⟨w4.heap.size, 7, none⟩ = some (.int .i64 (1 + wt)) := (uBox hu5 (w4.heap.size) (by simp) (by simp; omega) _).trans (cells_b rfl)
    have af : ∀ o, w5.frozen? ⟨w4.heap.size, o, none⟩ = false := fun o => (uBoxF hu5 (w4.heap.size) (by simp) (by simp; omega) _).trans (frozen_a _ _ _ _)
    have az : w4.heap.size < w5.heap.size := by have := hu5.size; simp at this; omega
    have r0 : w5.cell? ⟨w.heap.size, 0, none⟩ = some (.int .i64 0) := (uBox hu5 (w.heap.size) (by simp; omega) (by simp; omega) _).trans (bCell (bAlloc (Below.refl _ _) _) d0)
    have r1 : w5.cell? ⟨w.heap.size, 1, none⟩ = some (.int .i64 0) := (uBox hu5 (w.heap.size) (by simp; omega) (by simp; omega) _).trans (bCell (bAlloc (Below.refl _ _) _) d1)
    have r2 : w5.cell? ⟨w.heap.size, 2, none⟩ = some (.string ⟨#[]⟩) := (uBox hu5 (w.heap.size) (by simp; omega) (by simp; omega) _).trans (bCell (bAlloc (Below.refl _ _) _) d2)
    have r3 : w5.cell? ⟨w.heap.size, 3, none⟩ = some (.string ⟨#[]⟩) := (uBox hu5 (w.heap.size) (by simp; omega) (by simp; omega) _).trans (bCell (bAlloc (Below.refl _ _) _) d3)
    have r4 : w5.cell? ⟨w.heap.size, 4, none⟩ = some (.int .i64 0) := (uBox hu5 (w.heap.size) (by simp; omega) (by simp; omega) _).trans (bCell (bAlloc (Below.refl _ _) _) d4)
    have r5 : w5.cell? ⟨w.heap.size, 5, none⟩ = some (.int .i64 0) := (uBox hu5 (w.heap.size) (by simp; omega) (by simp; omega) _).trans (bCell (bAlloc (Below.refl _ _) _) d5)
    have r6 : w5.cell? ⟨w.heap.size, 6, none⟩ = some (.int .i64 0) := (uBox hu5 (w.heap.size) (by simp; omega) (by simp; omega) _).trans (bCell (bAlloc (Below.refl _ _) _) d6)
    have r7 : w5.cell? ⟨w.heap.size, 7, none⟩ = some (.int .i64 0) := (uBox hu5 (w.heap.size) (by simp; omega) (by simp; omega) _).trans (bCell (bAlloc (Below.refl _ _) _) d7)
    have rf : ∀ o, w5.frozen? ⟨w.heap.size, o, none⟩ = false := fun o => (uBoxF hu5 (w.heap.size) (by simp; omega) (by simp; omega) _).trans (frozen_al z5 (g4 o))
    have rz : w.heap.size < w5.heap.size := by have := hu5.size; simp at this; omega
    have U5 := Lib.hid (U4.trans hu5)
    have HC5 := Lib.hid hc5
    clear d0 d1 d2 d3 d4 d5 d6 d7 g4 hc5 hu5 HC4 HCw UW z5
    cases heq : (fr.toList == to.toList)
    · have hvl := Lib.hid (vld_two (id := id) (k := 4) (by omega) HID.out (HP.out.vld (by omega)) hwt.out p1 o1 heq)
      clear p1 o1 p2 o2
      go_wp2
      exact bodyPost_ret (v := vFactor id 4 fr to t x y (1 + wt)) (by simp [*, results, Tryd.results47, go_sem]) rfl ⟨4, fr, to, t, x, y, 1 + wt, rfl, hvl.out, (by repeat (first | with_reducible exact HC5.out | ((with_reducible refine Cur.set_ ?_ ?_ _); rotate_left; (first | (simp; omega) | (simp) | omega)) | with_reducible refine Cur.alloc_ ?_ _)), (by repeat (first | with_reducible exact U5.out | ((with_reducible refine Upd.set_new ?_ ?_ _); rotate_left; (first | (simp; omega) | (simp) | omega)) | with_reducible refine Upd.alloc_ ?_ _))⟩
    · have o2' : ((⟨#[112, 52]⟩ : ByteArray).toList == to.toList) = false := by
        rw [Bool.eq_false_iff] at o2 ⊢
        intro h; exact o2 (by rw [beq_iff_eq] at h ⊢; exact h.symm)
      have hvl := Lib.hid (vld_two (id := id) (k := 4) (by omega) HID.out (HP.out.vld (by omega)) hwt.out p4_ok o1 o2')
      clear p1 o1 p2 o2 o2'
      go_wp2
      exact bodyPost_ret (v := vFactor id 4 ⟨#[112, 52]⟩ to t x y (1 + wt)) (by simp [*, results, Tryd.results47, go_sem]) rfl ⟨4, ⟨#[112, 52]⟩, to, t, x, y, 1 + wt, rfl, hvl.out, (by repeat (first | with_reducible exact HC5.out | ((with_reducible refine Cur.set_ ?_ ?_ _); rotate_left; (first | (simp; omega) | (simp) | omega)) | with_reducible refine Cur.alloc_ ?_ _)), (by repeat (first | with_reducible exact U5.out | ((with_reducible refine Upd.set_new ?_ ?_ _); rotate_left; (first | (simp; omega) | (simp) | omega)) | with_reducible refine Upd.alloc_ ?_ _))⟩
end Go.Proofs.YtebcdjpddoaajaaDoor

/- Poses near the origin: RotateXY, l05Compose, Compose, Inverse, Between of the reference: where their answers lie. -/
namespace Go.Proofs.YtebcdjpddoaajaaDoor
open Go.RowKit
set_option linter.unusedVariables false
set_option linter.unusedSimpArgs false
set_option maxHeartbeats 1000000
set_option maxRecDepth 100000
theorem RotateXY_c (M t x y : Int) (h : nearP M t x y) (hM : M ≤ 100000) (w : World) :
    Calls Tryd.prog 127 #[.int .i64 x, .int .i64 y, .int .i64 t] w fun e w' => ∃ a b, e = .returned (.tuple #[.int .i64 a, .int .i64 b]) ∧ (-M ≤ a ∧ a ≤ M ∧ -M ≤ b ∧ b ≤ M) ∧ Below w.heap.size w w' := by
  have HV := Lib.hid (h.vld (by omega))
  obtain ⟨t0, t1, h1, h2, h3, h4⟩ := h
  go_enter Tryd.func127, Tryd.ntmps127
  go_wp2_with (go_at_call 126; refine (spec_IsValidPose_c _ _ _ _).mono ?_; rw [HV.out]; rintro e w1 ⟨rfl, hb1⟩)
  go_loopw [0, 1, 8] (fun p q i wr => ∃ (a b : Int) (k : Nat), p = .int .i64 a ∧ q = .int .i64 b ∧ i = .int .i64 (k : Int) ∧ (k : Int) ≤ t ∧ -M ≤ a ∧ a ≤ M ∧ -M ≤ b ∧ b ≤ M ∧ Below w.heap.size w wr) (fun _ _ i _ => t.toNat - (intOf i).toNat)
  case atStart => exact ⟨x, y, 0, rfl, rfl, rfl, by omega, h1, h2, h3, h4, hb1⟩
  case round =>
    obtain ⟨a, b, k, rfl, rfl, rfl, hk, a0, a1, b0, b1, hb⟩ := hrel
    by_cases hlt : (k : Int) < t
    · go_wp2
      exact ⟨⟨-b, a, k + 1, rfl, rfl, by simp, by omega, by omega, by omega, a0, a1, hb⟩, by simp only [intOf]; omega⟩
    · go_wp2
      go_ret2
      exact ⟨a, b, rfl, ⟨a0, a1, b0, b1⟩, hb⟩
theorem frozen_g (w : World) (g : Nat) (hg : g = w.heap.size) (cs : Array Value) (t : TypeId) (k : Nat) : (w.alloc (.cells cs t)).frozen? ⟨g, k, none⟩ = false := by subst hg; exact frozen_a w cs t k
/-- cells of boxes made one behind the other -/
theorem two_b (w : World) (cs cs2 : Array Value) (t t2 : TypeId) (k : Nat) (v : Value) (h : cs[k]? = some v) : ((w.alloc (.cells cs t)).alloc (.cells cs2 t2)).cell? ⟨w.heap.size, k, none⟩ = some v := bCell (bAlloc (Below.refl _ _) _) (cells_b h)
theorem next_b (w : World) (o : Obj) (g : Nat) (hg : g = w.heap.size + 1) (cs : Array Value) (t : TypeId) (k : Nat) (v : Value) (h : cs[k]? = some v) : ((w.alloc o).alloc (.cells cs t)).cell? ⟨g, k, none⟩ = some v := by
  have e : g = (w.alloc o).heap.size := by simp [hg]
  subst e
  exact cells_b h
theorem l05Compose_c (M N t1 x1 y1 t2 x2 y2 : Int) (h1 : nearP M t1 x1 y1) (h2 : nearP N t2 x2 y2) (hM : M ≤ 100000) (hN : N ≤ 100000) (w : World) :
    Calls Tryd.prog 111 #[vPose t1 x1 y1, vPose t2 x2 y2] w fun e w' => ∃ t x y, e = .returned (.tuple #[vPose t x y, .bool true]) ∧ nearP (M + N) t x y ∧ Below w.heap.size w w' := by
  have HV1 := Lib.hid (h1.vld (by omega))
  have HV2 := Lib.hid (h2.vld (by omega))
  obtain ⟨p0', p1', p2', p3', p4', p5'⟩ := h1
  obtain ⟨q0', q1', q2', q3', q4', q5'⟩ := h2
  have hR : nearP N t1 x2 y2 := ⟨p0', p1', q2', q3', q4', q5'⟩
  have HR := Lib.hid hR
  clear hR
  go_enter Tryd.func111, Tryd.ntmps111
  go_wp2_with fail
  refine Calls.mono (spec_IsValidPose_c _ _ _ _) ?_
  rw [HV1.out]
  rintro e w1 ⟨rfl, hb1⟩
  have B1 : Below w.heap.size w w1 := bTrans (bAlloc (bAlloc (bAlloc (Below.refl _ _) _) _) _) hb1
  have p0 : w1.cell? ⟨w.heap.size, 0, none⟩ = some (.int .i64 t1) := bCell hb1 (bCell (bAlloc (Below.refl _ _) _) (two_b _ _ _ _ _ _ _ rfl))
  have p1 : w1.cell? ⟨w.heap.size, 1, none⟩ = some (.int .i64 x1) := bCell hb1 (bCell (bAlloc (Below.refl _ _) _) (two_b _ _ _ _ _ _ _ rfl))
  have p2 : w1.cell? ⟨w.heap.size, 2, none⟩ = some (.int .i64 y1) := bCell hb1 (bCell (bAlloc (Below.refl _ _) _) (two_b _ _ _ _ _ _ _ rfl))
  have pz : w.heap.size < w1.heap.size := cell_lt p0
  have q0 : w1.cell? ⟨w.heap.size + 1, 0, none⟩ = some (.int .i64 t2) := bCell hb1 (bCell (bAlloc (Below.refl _ _) _) (next_b _ _ _ rfl _ _ _ _ rfl))
  have q1 : w1.cell? ⟨w.heap.size + 1, 1, none⟩ = some (.int .i64 x2) := bCell hb1 (bCell (bAlloc (Below.refl _ _) _) (next_b _ _ _ rfl _ _ _ _ rfl))
  have q2 : w1.cell? ⟨w.heap.size + 1, 2, none⟩ = some (.int .i64 y2) := bCell hb1 (bCell (bAlloc (Below.refl _ _) _) (next_b _ _ _ rfl _ _ _ _ rfl))
  have qz : w.heap.size + 1 < w1.heap.size := cell_lt q0
  have r0 : w1.cell? ⟨w.heap.size + 1 + 1, 0, none⟩ = some (.int .i64 0) := bCell hb1 (next_b _ _ _ (by simp) _ _ _ _ rfl)
  have r1 : w1.cell? ⟨w.heap.size + 1 + 1, 1, none⟩ = some (.int .i64 0) := bCell hb1 (next_b _ _ _ (by simp) _ _ _ _ rfl)
  have r2 : w1.cell? ⟨w.heap.size + 1 + 1, 2, none⟩ = some (.int .i64 0) := bCell hb1 (next_b _ _ _ (by simp) _ _ _ _ rfl)
  have rf : ∀ o, w1.frozen? ⟨w.heap.size + 1 + 1, o, none⟩ = false := fun o => (bBoxF hb1 (w.heap.size + 1 + 1) (by first | (simp; done) | (simp; omega)) o).trans (frozen_g _ _ (by simp) _ _ _)
  have rz : w.heap.size + 1 + 1 < w1.heap.size := cell_lt r0
  go_wp2_with fail
  refine Calls.mono (spec_IsValidPose_c _ _ _ _) ?_
  rw [HV2.out]
  rintro e w2 ⟨rfl, hb2⟩
  have B2 := bTrans B1 hb2
  have p0 : w2.cell? ⟨w.heap.size, 0, none⟩ = some (.int .i64 t1) := bCell hb2 (p0)
  have p1 : w2.cell? ⟨w.heap.size, 1, none⟩ = some (.int .i64 x1) := bCell hb2 (p1)
  have p2 : w2.cell? ⟨w.heap.size, 2, none⟩ = some (.int .i64 y1) := bCell hb2 (p2)
  have pz : w.heap.size < w2.heap.size := cell_lt p0
  have q0 : w2.cell? ⟨w.heap.size + 1, 0, none⟩ = some (.int .i64 t2) := bCell hb2 (q0)
  have q1 : w2.cell? ⟨w.heap.size + 1, 1, none⟩ = some (.int .i64 x2) := bCell hb2 (q1)
  have q2 : w2.cell? ⟨w.heap.size + 1, 2, none⟩ = some (.int .i64 y2) := bCell hb2 (q2)
  have qz : w.heap.size + 1 < w2.heap.size := cell_lt q0
  have r0 : w2.cell? ⟨w.heap.size + 1 + 1, 0, none⟩ = some (.int .i64 0) := bCell hb2 (r0)
  have r1 : w2.cell? ⟨w.heap.size + 1 + 1, 1, none⟩ = some (.int .i64 0) := bCell hb2 (r1)
  have r2 : w2.cell? ⟨w.heap.size + 1 + 1, 2, none⟩ = some (.int .i64 0) := bCell hb2 (r2)
  have rf : ∀ o, w2.frozen? ⟨w.heap.size + 1 + 1, o, none⟩ = false := fun o => (bBoxF hb2 (w.heap.size + 1 + 1) (rz) o).trans (rf o)
  have rz : w.heap.size + 1 + 1 < w2.heap.size := cell_lt r0
  clear B1 hb1 hb2
  go_wp2_with fail
  refine Calls.mono (RotateXY_c N t1 x2 y2 HR.out hN _) ?_
  rintro e w3 ⟨a, b, rfl, ⟨a0, a1, b0, b1⟩, hb3⟩
  have B3 := bTrans B2 hb3
  have p0 : w3.cell? ⟨w.heap.size, 0, none⟩ = some (.int .i64 t1) := bCell hb3 (p0)
  have p1 : w3.cell? ⟨w.heap.size, 1, none⟩ = some (.int .i64 x1) := bCell hb3 (p1)
  have p2 : w3.cell? ⟨w.heap.size, 2, none⟩ = some (.int .i64 y1) := bCell hb3 (p2)
  have pz : w.heap.size < w3.heap.size := cell_lt p0
  have q0 : w3.cell? ⟨w.heap.size + 1, 0, none⟩ = some (.int .i64 t2) := bCell hb3 (q0)
  have q1 : w3.cell? ⟨w.heap.size + 1, 1, none⟩ = some (.int .i64 x2) := bCell hb3 (q1)
  have q2 : w3.cell? ⟨w.heap.size + 1, 2, none⟩ = some (.int .i64 y2) := bCell hb3 (q2)
  have qz : w.heap.size + 1 < w3.heap.size := cell_lt q0
  have r0 : w3.cell? ⟨w.heap.size + 1 + 1, 0, none⟩ = some (.int .i64 0) := bCell hb3 (r0)
  have r1 : w3.cell? ⟨w.heap.size + 1 + 1, 1, none⟩ = some (.int .i64 0) := bCell hb3 (r1)
  have r2 : w3.cell? ⟨w.heap.size + 1 + 1, 2, none⟩ = some (.int .i64 0) := bCell hb3 (r2)
  have rf : ∀ o, w3.frozen? ⟨w.heap.size + 1 + 1, o, none⟩ = false := fun o => (bBoxF hb3 (w.heap.size + 1 + 1) (rz) o).trans (rf o)
  have rz : w.heap.size + 1 + 1 < w3.heap.size := cell_lt r0
  have hres : nearP (M + N) ((t1 + t2) % 4) (x1 + a) (y1 + b) := ⟨by omega, by omega, by omega, by omega, by omega, by omega⟩
  have HRES := Lib.hid hres
  have HV3 := Lib.hid (hres.vld (by omega))
  clear B2 hb3 hres HR
  go_wp2_with fail
  refine Calls.mono (spec_IsValidPose_c _ _ _ _) ?_
  rw [HV3.out]
  rintro e w4 ⟨rfl, hb4⟩
  have B4 : Below w.heap.size w w4 := bTrans (bAlloc B3 _) hb4
  have s0 : w4.cell? ⟨w3.heap.size, 0, none⟩ = some (.int .i64 ((t1 + t2) % 4)) := bCell hb4 (cells_b rfl)
  have s1 : w4.cell? ⟨w3.heap.size, 1, none⟩ = some (.int .i64 (x1 + a)) := bCell hb4 (cells_b rfl)
  have s2 : w4.cell? ⟨w3.heap.size, 2, none⟩ = some (.int .i64 (y1 + b)) := bCell hb4 (cells_b rfl)
  have u0 : w4.cell? ⟨w.heap.size + 1 + 1, 0, none⟩ = some (.int .i64 0) := bCell hb4 (bCell (bAlloc (Below.refl _ _) _) r0)
  have u1 : w4.cell? ⟨w.heap.size + 1 + 1, 1, none⟩ = some (.int .i64 0) := bCell hb4 (bCell (bAlloc (Below.refl _ _) _) r1)
  have u2 : w4.cell? ⟨w.heap.size + 1 + 1, 2, none⟩ = some (.int .i64 0) := bCell hb4 (bCell (bAlloc (Below.refl _ _) _) r2)
  have uf : ∀ o, w4.frozen? ⟨w.heap.size + 1 + 1, o, none⟩ = false := fun o => (bBoxF hb4 (w.heap.size + 1 + 1) (by simp; omega) o).trans (frozen_al rz (rf o))
  clear p0 p1 p2 pz q0 q1 q2 qz r0 r1 r2 rf B3
  go_wp2_with fail
  refine bodyPost_ret (v := .tuple #[vPose ((t1 + t2) % 4) (x1 + a) (y1 + b), .bool true]) (by simp [*, results, Tryd.results111, go_sem]) rfl ⟨_, _, _, rfl, HRES.out, ?_⟩
  exact bSet (bSet (bSet B4 (by simp; omega) _) (by simp; omega) _) (by simp; omega) _
theorem Compose_c (M N t1 x1 y1 t2 x2 y2 : Int) (h1 : nearP M t1 x1 y1) (h2 : nearP N t2 x2 y2) (hM : M ≤ 100000) (hN : N ≤ 100000) (w : World) :
    Calls Tryd.prog 85 #[vPose t1 x1 y1, vPose t2 x2 y2] w fun e w' => ∃ t x y, e = .returned (vPose t x y) ∧ nearP (M + N) t x y ∧ Below w.heap.size w w' := by
  have H1 := Lib.hid h1
  have H2 := Lib.hid h2
  clear h1 h2
  go_enter Tryd.func85, Tryd.ntmps85
  go_wp2_with fail
  refine Calls.mono (l05Compose_c M N _ _ _ _ _ _ H1.out H2.out hM hN _) ?_
  rintro e w1 ⟨t, x, y, rfl, hp, hb1⟩
  have B1 : Below w.heap.size w w1 := bTrans (bAlloc (bAlloc (bAlloc (Below.refl _ _) _) _) _) hb1
  have r0 : w1.cell? ⟨w.heap.size + 1 + 1, 0, none⟩ = some (.int .i64 0) := bCell hb1 (next_b _ _ _ (by simp) _ _ _ _ rfl)
  have r1 : w1.cell? ⟨w.heap.size + 1 + 1, 1, none⟩ = some (.int .i64 0) := bCell hb1 (next_b _ _ _ (by simp) _ _ _ _ rfl)
  have r2 : w1.cell? ⟨w.heap.size + 1 + 1, 2, none⟩ = some (.int .i64 0) := bCell hb1 (next_b _ _ _ (by simp) _ _ _ _ rfl)
  have rf : ∀ o, w1.frozen? ⟨w.heap.size + 1 + 1, o, none⟩ = false := fun o => (bBoxF hb1 (w.heap.size + 1 + 1) (by first | (simp; done) | (simp; omega)) o).trans (frozen_g _ _ (by simp) _ _ _)
  have rz : w.heap.size + 1 + 1 < w1.heap.size := cell_lt r0
  have HP := Lib.hid hp
  clear hp hb1 H1 H2
  go_wp2_with fail
  refine bodyPost_ret (v := vPose t x y) (by simp [*, results, Tryd.results85, go_sem]) rfl ⟨_, _, _, rfl, HP.out, ?_⟩
  repeat (first | with_reducible exact B1 | with_reducible refine bAlloc ?_ _ | ((with_reducible refine bSet ?_ ?_ _); rotate_left; (first | (simp; done) | (simp; omega) | simp | omega)))
theorem Inverse_c (M t1 x1 y1 : Int) (h1 : nearP M t1 x1 y1) (hM : M ≤ 100000) (w : World) :
    Calls Tryd.prog 112 #[vPose t1 x1 y1] w fun e w' => ∃ t x y, e = .returned (vPose t x y) ∧ nearP M t x y ∧ Below w.heap.size w w' := by
  have HV1 := Lib.hid (h1.vld (by omega))
  obtain ⟨p0', p1', p2', p3', p4', p5'⟩ := h1
  have hR : nearP M ((-t1) % 4) (-x1) (-y1) := ⟨by omega, by omega, by omega, by omega, by omega, by omega⟩
  have HR := Lib.hid hR
  clear hR
  go_enter Tryd.func112, Tryd.ntmps112
  go_wp2_with fail
  refine Calls.mono (spec_IsValidPose_c _ _ _ _) ?_
  rw [HV1.out]
  rintro e w1 ⟨rfl, hb1⟩
  have B1 : Below w.heap.size w w1 := bTrans (bAlloc (bAlloc (Below.refl _ _) _) _) hb1
  have p0 : w1.cell? ⟨w.heap.size, 0, none⟩ = some (.int .i64 t1) := bCell hb1 (two_b _ _ _ _ _ _ _ rfl)
  have p1 : w1.cell? ⟨w.heap.size, 1, none⟩ = some (.int .i64 x1) := bCell hb1 (two_b _ _ _ _ _ _ _ rfl)
  have p2 : w1.cell? ⟨w.heap.size, 2, none⟩ = some (.int .i64 y1) := bCell hb1 (two_b _ _ _ _ _ _ _ rfl)
  have r0 : w1.cell? ⟨w.heap.size + 1, 0, none⟩ = some (.int .i64 0) := bCell hb1 (next_b _ _ _ rfl _ _ _ _ rfl)
  have r1 : w1.cell? ⟨w.heap.size + 1, 1, none⟩ = some (.int .i64 0) := bCell hb1 (next_b _ _ _ rfl _ _ _ _ rfl)
  have r2 : w1.cell? ⟨w.heap.size + 1, 2, none⟩ = some (.int .i64 0) := bCell hb1 (next_b _ _ _ rfl _ _ _ _ rfl)
  have rf : ∀ o, w1.frozen? ⟨w.heap.size + 1, o, none⟩ = false := fun o => (bBoxF hb1 (w.heap.size + 1) (by first | (simp; done) | (simp; omega)) o).trans (frozen_g _ _ (by simp) _ _ _)
  have rz : w.heap.size + 1 < w1.heap.size := cell_lt r0
  clear hb1
  go_wp2_with fail
  refine Calls.mono (RotateXY_c M ((-t1) % 4) (-x1) (-y1) HR.out hM _) ?_
  rintro e w2 ⟨a, b, rfl, ⟨a0, a1, b0, b1⟩, hb2⟩
  have B2 := bTrans B1 hb2
  have s0 := bCell hb2 r0
  have s1 := bCell hb2 r1
  have s2 := bCell hb2 r2
  have sf : ∀ o, w2.frozen? ⟨w.heap.size + 1, o, none⟩ = false := fun o => (bBoxF hb2 (w.heap.size + 1) rz o).trans (rf o)
  have sz : w.heap.size + 1 < w2.heap.size := cell_lt s0
  have hres : nearP M ((-t1) % 4) a b := ⟨by omega, by omega, a0, a1, b0, b1⟩
  have HRES := Lib.hid hres
  clear r0 r1 r2 rf rz p0 p1 p2 B1 hb2 hres HR
  go_wp2_with fail
  refine bodyPost_ret (v := vPose ((-t1) % 4) a b) (by simp [*, results, Tryd.results112, go_sem]) rfl ⟨_, _, _, rfl, HRES.out, ?_⟩
  repeat (first | with_reducible exact B2 | with_reducible refine bAlloc ?_ _ | ((with_reducible refine bSet ?_ ?_ _); rotate_left; (first | (simp; done) | (simp; omega) | simp | omega)))
theorem Between_c (M N t1 x1 y1 t2 x2 y2 : Int) (h1 : nearP M t1 x1 y1) (h2 : nearP N t2 x2 y2) (hM : M ≤ 100000) (hN : N ≤ 100000) (w : World) :
    Calls Tryd.prog 87 #[vPose t1 x1 y1, vPose t2 x2 y2] w fun e w' => ∃ t x y, e = .returned (vPose t x y) ∧ nearP (M + N) t x y ∧ Below w.heap.size w w' := by
  have H1 := Lib.hid h1
  have H2 := Lib.hid h2
  clear h1 h2
  go_enter Tryd.func87, Tryd.ntmps87
  go_wp2_with fail
  refine region_at fun R hR => ?_
  have hwb : Below w.heap.size w R := by rw [hR.out]; exact bAlloc (bAlloc (bAlloc (Below.refl _ _) _) _) _
  have g0 : R.cell? ⟨w.heap.size, 0, none⟩ = some (.int .i64 t1) := by rw [hR.out]; exact bCell (bAlloc (Below.refl _ _) _) (two_b _ _ _ _ _ _ _ rfl)
  have g1 : R.cell? ⟨w.heap.size, 1, none⟩ = some (.int .i64 x1) := by rw [hR.out]; exact bCell (bAlloc (Below.refl _ _) _) (two_b _ _ _ _ _ _ _ rfl)
  have g2 : R.cell? ⟨w.heap.size, 2, none⟩ = some (.int .i64 y1) := by rw [hR.out]; exact bCell (bAlloc (Below.refl _ _) _) (two_b _ _ _ _ _ _ _ rfl)
  have g3 : R.cell? ⟨w.heap.size + 1, 0, none⟩ = some (.int .i64 t2) := by rw [hR.out]; exact bCell (bAlloc (Below.refl _ _) _) (next_b _ _ _ rfl _ _ _ _ rfl)
  have g4 : R.cell? ⟨w.heap.size + 1, 1, none⟩ = some (.int .i64 x2) := by rw [hR.out]; exact bCell (bAlloc (Below.refl _ _) _) (next_b _ _ _ rfl _ _ _ _ rfl)
  have g5 : R.cell? ⟨w.heap.size + 1, 2, none⟩ = some (.int .i64 y2) := by rw [hR.out]; exact bCell (bAlloc (Below.refl _ _) _) (next_b _ _ _ rfl _ _ _ _ rfl)
  have r0 : R.cell? ⟨w.heap.size + 1 + 1, 0, none⟩ = some (.int .i64 0) := by rw [hR.out]; exact next_b _ _ _ (by simp) _ _ _ _ rfl
  have r1 : R.cell? ⟨w.heap.size + 1 + 1, 1, none⟩ = some (.int .i64 0) := by rw [hR.out]; exact next_b _ _ _ (by simp) _ _ _ _ rfl
  have r2 : R.cell? ⟨w.heap.size + 1 + 1, 2, none⟩ = some (.int .i64 0) := by rw [hR.out]; exact next_b _ _ _ (by simp) _ _ _ _ rfl
  have rf : ∀ o, R.frozen? ⟨w.heap.size + 1 + 1, o, none⟩ = false := fun o => by rw [hR.out]; exact frozen_g _ _ (by simp) _ _ _
  have rz : w.heap.size + 1 + 1 < R.heap.size := cell_lt r0
  clear hR
  go_region_law (first
    | (go_simp; go_at_call 112; refine (Inverse_c M _ _ _ H1.out hM _).mono ?_; rintro e w2 ⟨t3, x3, y3, rfl, hp3, hb2⟩; have B2 : Below w.heap.size w w2 := bTrans (bDrew hwb) hb2; have k3 := bCell hb2 (show R.drew.cell? _ = _ from g3); have k4 := bCell hb2 (show R.drew.cell? _ = _ from g4); have k5 := bCell hb2 (show R.drew.cell? _ = _ from g5); have u0 := bCell hb2 (show R.drew.cell? _ = _ from r0); have u1 := bCell hb2 (show R.drew.cell? _ = _ from r1); have u2 := bCell hb2 (show R.drew.cell? _ = _ from r2); have uf : ∀ o, w2.frozen? ⟨w.heap.size + 1 + 1, o, none⟩ = false := (fun o => (bBoxF hb2 (w.heap.size + 1 + 1) rz o).trans (rf o)); have H3 := Lib.hid hp3; have uz : w.heap.size + 1 + 1 < w2.heap.size := cell_lt u0)
    | (go_simp; go_at_call 85; refine (Compose_c M N _ _ _ _ _ _ H3.out H2.out hM hN _).mono ?_; rintro e w3 ⟨t4, x4, y4, rfl, hp4, hb3⟩; have B3 := bTrans B2 hb3; have v0 := bCell hb3 u0; have v1 := bCell hb3 u1; have v2 := bCell hb3 u2; have vf : ∀ o, w3.frozen? ⟨w.heap.size + 1 + 1, o, none⟩ = false := (fun o => (bBoxF hb3 (w.heap.size + 1 + 1) uz o).trans (uf o)); have H4 := Lib.hid hp4))
  all_goals
    go_wp2_with fail
    refine bodyPost_ret (v := vPose t4 x4 y4) (by simp [*, results, Tryd.results87, go_sem]) rfl ⟨_, _, _, rfl, H4.out, ?_⟩
    repeat (first | with_reducible exact B3 | with_reducible refine bAlloc ?_ _ | ((with_reducible refine bSet ?_ ?_ _); rotate_left; (first | (simp; done) | (simp; omega) | simp | omega)))
end Go.Proofs.YtebcdjpddoaajaaDoor

/- A region that draws its order, by an invariant that every operation keeps, whatever has been carried out before it. No program in sight. -/
namespace Go.Proofs.YtebcdjpddoaajaaDoor
open Go.RowKit
set_option linter.unusedVariables false
set_option linter.unusedSimpArgs false
section
variable {P : Program} {md : Region.Mode} {ops : Array Oper} {Q : Exit → Act → World → Prop}
theorem count_set : ∀ (l : List Bool) (i : Nat), l[i]? = some false → (l.set i true).count false + 1 = l.count false
  | b :: l, 0, h => by simp only [List.getElem?_cons_zero, Option.some.injEq] at h; subst h; simp
  | b :: l, i + 1, h => by
    simp only [List.getElem?_cons_succ] at h
    have := count_set l i h
    rw [List.set_cons_succ, List.count_cons, List.count_cons]; omega
theorem wpAny_inv {I : Array Bool → Act → World → Prop}
    (hstep : ∀ listed a w, I listed a w → ∀ i ∈ Region.ready md ops listed, wpOp P ops Q i (I (listed.setIfInBounds i true)) a w)
    (hend : ∀ listed a w, I listed a w → Region.ready md ops listed = [] → Q .normal a w) :
    ∀ (fuel : Nat) (listed : Array Bool) (a : Act) (w : World), listed.toList.count false ≤ fuel → I listed a w → wpAny P md ops Q fuel listed a w
  | 0, listed, a, w, hf, hi => by
    have hr : Region.ready md ops listed = [] := by
      rw [List.eq_nil_iff_forall_not_mem]
      intro i him
      obtain ⟨h1, _⟩ := mem_ready.1 him
      have h0 : listed.toList.count false = 0 := by omega
      rw [List.count_eq_zero] at h0
      apply h0
      rcases Nat.lt_or_ge i listed.size with h | h
      · simp [Array.getD, h] at h1
        rw [← h1]; simp
      · rw [Array.getD, dif_neg (by omega)] at h1; cases h1
    exact ⟨hr, hend _ _ _ hi hr⟩
  | fuel + 1, listed, a, w, hf, hi => by
    refine ⟨fun hr => hend _ _ _ hi hr, fun i him => ?_⟩
    have hs := hstep _ _ _ hi i him
    obtain ⟨h1, _⟩ := mem_ready.1 him
    have hlt : i < listed.size := by
      rcases Nat.lt_or_ge i listed.size with h | h
      · exact h
      · rw [Array.getD, dif_neg (by omega)] at h1; cases h1
    have hc := count_set listed.toList i (by simp [Array.getD, hlt] at h1; simp [hlt, h1])
    refine wpOp_mono (fun a' w' h => wpAny_inv hstep hend fuel _ a' w' ?_ h) hs
    rw [Array.setIfInBounds, dif_pos hlt, Array.toList_set]
    omega
end
theorem wp_region_inv {P : Program} {ops : Array Oper} {Q : Exit → Act → World → Prop} {id : Nat} {a : Act} {w : World} (I : Array Bool → Act → World → Prop) (hm : P.follows .mixedOrders = true)
    (h0 : I (Array.replicate ops.size false) a w.drew)
    (hstep : ∀ listed a w, I listed a w → ∀ i ∈ Region.ready .any ops listed, wpOp P ops Q i (I (listed.setIfInBounds i true)) a w)
    (hend : ∀ listed a w, I listed a w → Region.ready .any ops listed = [] → Q .normal a w) : (Code.region id ops true).wp P Q a w :=
  wp_region_any hm (wpAny_inv hstep hend _ _ _ _ (by simp [List.count_replicate]) h0)
/-- where nothing is ready and every operation waits for earlier ones alone, all have been carried out -/
theorem ready_nil {md : Region.Mode} {ops : Array Oper} {listed : Array Bool} (h : Region.ready md ops listed = []) (hlt : (List.range ops.size).all (fun j => match ops[j]? with | some o => o.after.all fun e => decide (e.on < j) | none => true) = true) :
    ∀ n j, j < n → j < ops.size → listed.getD j true = true := by
  intro n
  induction n with
  | zero => intro j hj; omega
  | succ n ih =>
    intro j hj hs
    cases hb : listed.getD j true with
    | true => rfl
    | false =>
      exfalso
      have hm : j ∈ Region.ready md ops listed := by
        rw [mem_ready]
        refine ⟨hb, ops[j], by simp [hs], fun e he _ => ?_⟩
        have h1 := List.all_eq_true.1 hlt j (List.mem_range.2 hs)
        simp only [hs, Array.getElem?_eq_getElem] at h1
        have h2 : e.on < j := by
          have := Array.all_eq_true_iff_forall_mem.1 h1 e he
          simpa using this
        have h3 := ih e.on (by omega) (by omega)
        rcases Nat.lt_or_ge e.on listed.size with h | h
        · simp [Array.getD, h] at h3 ⊢; exact h3
        · have hj2 : listed.getD j true = true := by rw [Array.getD, dif_neg (by omega)]
          rw [hj2] at hb; cases hb
      rw [h] at hm
      cases hm
end Go.Proofs.YtebcdjpddoaajaaDoor

/- copyStrings, copyChannel, TakeInbox, Offer: what the two of each answer. -/
namespace Go.Proofs.YtebcdjpddoaajaaDoor
open Go.RowKit
set_option linter.unusedVariables false
set_option linter.unusedSimpArgs false
set_option maxHeartbeats 400000
set_option maxRecDepth 100000
theorem Own.made' (w : World) {B g : Nat} (e sz : Nat) (hB : B ≤ w.heap.size) (hg : g = w.heap.size) : Own (w.alloc (.cells #[] e)) B e sz (some ⟨g, 0, none⟩) 0 0 [] := by subst hg; exact Own.made0 w e sz hB
theorem one_S {l : List ByteArray} : ∀ cs ∈ l.map strCells, cs.length = 1 := fun cs h => by obtain ⟨f, _, rfl⟩ := List.mem_map.1 h; rfl
theorem cell_S {l : List ByteArray} : ∀ cs ∈ l.map strCells, ∀ u ∈ cs, u.oneCell' = true := fun cs h => by obtain ⟨f, _, rfl⟩ := List.mem_map.1 h; exact one_of rfl
theorem one_K {l : List Packet} : ∀ cs ∈ l.map Packet.cells, cs.length = 4 := fun cs h => by obtain ⟨f, _, rfl⟩ := List.mem_map.1 h; rfl
theorem cell_K {l : List Packet} : ∀ cs ∈ l.map Packet.cells, ∀ u ∈ cs, u.oneCell' = true := fun cs h => by obtain ⟨f, _, rfl⟩ := List.mem_map.1 h; exact one_of rfl
theorem gBoxF {w w' : World} {row : Option Nat} (hg : w.grownBy w' row) (b : Nat) (hb : b < w.heap.size) (hne : ∀ k, row = some k → k ≠ b) : ∀ o, w'.frozen? ⟨b, o, none⟩ = w.frozen? ⟨b, o, none⟩ :=
  fun o => World.frozen?_of_block (a := ⟨b, o, none⟩) (hg.block b hb (fun e => hne b e.symm rfl))
theorem Upd.grown_new {fs : List Nat} {a b c : World} {g : Nat} (h : Upd fs a b) (k : b.grownBy c (ob (some ⟨g, 0, none⟩))) (hg : a.heap.size ≤ g) : Upd fs a c :=
  ⟨k.os.trans h.os, k.tape.trans h.tape, k.output.trans h.output, Nat.le_trans h.size k.size, fun i hi hn => (k.block i (Nat.lt_of_lt_of_le hi h.size) (by simp [ob]; omega)).trans (h.block i hi hn)⟩
theorem upd1 {a b : World} {g : Nat} (h : a.grownBy b (some g)) : Upd [g] a b := Upd.of_grown h fun k hk => by simp only [Option.some.injEq] at hk; subst hk; simp
/-! ### boxes: a struct's own block, as a slice of one element -/
theorem Own.box {w : World} {b t sz : Nat} {cs : List Value} (h : w.heap[b]? = some (.cells cs.toArray t (0, 0))) (hl : cs.length = sz) : Own w 0 t sz (some ⟨b, 0, none⟩) 1 1 [cs] :=
  ⟨⟨by simp [hl], .inr ⟨b, 1, cs.toArray, rfl, Nat.zero_le _, h, Nat.le_refl _, by simp [maxLen], by simp [hl], by rw [List.take_of_length_le (by simp [hl])]; simp⟩⟩, rfl, by simp [hl]⟩
theorem Own.bcell {w : World} {b t sz : Nat} {cs : List Value} (h : Own w 0 t sz (some ⟨b, 0, none⟩) 1 1 [cs]) : ∀ (j : Nat) (u : Value), cs[j]? = some u → w.cell? ⟨b, j, none⟩ = some u := by
  intro j u hu
  obtain ⟨g', off', hA, hc⟩ := h.row.2 0 cs rfl
  simp only [Option.some.injEq, Addr.mk.injEq, and_true] at hA
  obtain ⟨rfl, rfl⟩ := hA
  simpa using hc j u hu
theorem box1 (w : World) (o : Obj) : (w.alloc o).heap[w.heap.size]? = some o := heap_alloc_new w o
theorem box2 (w : World) (o o2 : Obj) : ((w.alloc o).alloc o2).heap[w.heap.size]? = some o := ((bAlloc (Below.refl _ _) o2).block w.heap.size (by simp)).trans (box1 w o)
end Go.Proofs.YtebcdjpddoaajaaDoor
