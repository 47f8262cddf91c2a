/- The draws of single factors: l01Once, l01Str, l05Draw, l16Pose, l16Draw. -/
import Derived.Test.YtgpmmmfnbphgdaaDraw2
namespace Go.Proofs.Ytgpmmmfnbphgdaa
open Go.RowKit
set_option linter.unusedVariables false
set_option linter.unusedSimpArgs false
set_option maxHeartbeats 1000000
set_option maxRecDepth 100000
theorem l01Once_c {W w : World} {b : Nat} {A : Option Addr} {n c : Nat} (hy : Bytes W A n) (hn : n ≤ 1048576) (h : Cur W w b A n c) (m : Int) (h0 : 0 < m) (h1 : m ≤ 256) :
    Calls Try.prog 20 #[.pointer (some ⟨b, 0, none⟩), .int .i64 m] w fun e w' => ∃ x, e = rBool x ∧ Cur W w' b A n c ∧ Upd [b] w w' := by
  have HC := Lib.hid h
  have hy' := Lib.hid hy
  clear h hy
  go_enter Try.func20, Try.ntmps20
  go_wp2_with fail
  refine Calls.mono (l01Below_c hy'.out hn HC.out m h0 h1) ?_
  rintro e w1 ⟨x, rfl, hx0, hx1, hc1, hu1⟩
  go_wp2
  go_ret
  exact ⟨_, rfl, hc1, hu1⟩
theorem l01Str_c {W w : World} {b : Nat} {A : Option Addr} {n c : Nat} (hy : Bytes W A n) (hn : n ≤ 1048576) (h : Cur W w b A n c) (g m cp : Nat) (l : List ByteArray) (hr : RowS w (some ⟨g, 0, none⟩) m l) (hg : g ≠ b) (h0 : 0 < m) (h1 : m ≤ 256) :
    Calls Try.prog 36 #[.pointer (some ⟨b, 0, none⟩), .slice (some ⟨g, 0, none⟩) m cp] w fun e w' => ∃ x, e = .returned (.string x) ∧ x ∈ l ∧ Cur W w' b A n c ∧ Upd [b] w w' := by
  have HC := Lib.hid h
  have hy' := Lib.hid hy
  have hr' := Lib.hid hr
  clear h hy hr
  have hmi0 : (0 : Int) < (m : Int) := by omega
  have hmi1 : (m : Int) ≤ 256 := by omega
  go_enter Try.func36, Try.ntmps36
  go_wp2_with fail
  refine Calls.mono (l01Below_c hy'.out hn HC.out (m : Int) (by omega) (by omega)) ?_
  rintro e w1 ⟨x, rfl, hx0, hx1, hc1, hu1⟩
  obtain ⟨k, rfl⟩ := Int.eq_ofNat_of_zero_le hx0
  have hk : k < m := by omega
  obtain ⟨v, g', off', hv, hA, hcell⟩ := RowS.at_ (hr'.out.upd_ hu1 (fun g2 off2 e => by simp only [Option.some.injEq, Addr.mk.injEq] at e; simp; omega)) hk
  simp only [Option.some.injEq, Addr.mk.injEq, and_true] at hA
  obtain ⟨rfl, rfl⟩ := hA
  rw [Nat.zero_add] at hcell
  go_wp2
  go_ret
  exact ⟨v, rfl, List.mem_of_getElem? hv.out, hc1, hu1⟩
/-- a row of strings, just made -/
theorem str_row (w : World) (l : List ByteArray) : RowS (w.alloc (.cells (l.map Value.string).toArray 9)) (some ⟨w.heap.size, 0, none⟩) l.length l := by
  refine ⟨by simp, fun i cs hi => ⟨w.heap.size, 0, rfl, fun j v hv => ?_⟩⟩
  have e : (w.alloc (.cells (l.map Value.string).toArray 9)).heap[w.heap.size]? = some (.cells (l.map Value.string).toArray 9) := heap_alloc_new w _
  unfold World.cell?
  rw [e]
  rw [List.getElem?_map] at hi
  cases hl : l[i]? with
  | none => rw [hl] at hi; cases hi
  | some s =>
    rw [hl] at hi
    simp only [Option.map_some, Option.some.injEq] at hi
    subst hi
    match j with
    | 0 =>
      simp [strCells] at hv
      subst hv
      simp [hl]
    | j + 1 => simp [strCells] at hv
theorem Cur.set_ {W w : World} {b : Nat} {A : Option Addr} {n c : Nat} (h : Cur W w b A n c) {p : Addr} (hp : b < p.block) (u : Value) : Cur W (w.setCell p u) b A n c :=
  h.keep (bSet h.hB (by have := h.hb; omega) u) (Below.heap_setCell _ _ _ _ (by omega))
/-- a pose near the origin -/
def nearP (M t x y : Int) : Prop := 0 ≤ t ∧ t ≤ 3 ∧ -M ≤ x ∧ x ≤ M ∧ -M ≤ y ∧ y ≤ M
theorem l05Draw_c {W w : World} {b : Nat} {A : Option Addr} {n c : Nat} (hy : Bytes W A n) (hn : n ≤ 1048576) (h : Cur W w b A n c) :
    Calls Try.prog 29 #[.pointer (some ⟨b, 0, none⟩)] w fun e w' => ∃ t x y, e = .returned (vPose t x y) ∧ nearP 20 t x y ∧ Cur W w' b A n c ∧ Upd [b] w w' := by
  have hlt := h.lt
  have hy' := Lib.hid hy
  have HC := Lib.hid (h.below (bAlloc (Below.refl _ _) (.cells #[.int .i64 0, .int .i64 0, .int .i64 0] 43)))
  clear h hy
  go_enter Try.func29, Try.ntmps29
  go_wp2_with fail
  refine Calls.mono (l01Below_c hy'.out hn HC.out 4 (by omega) (by omega)) ?_
  rintro e w1 ⟨t, rfl, ht0, ht1, hc1, hu1⟩
  have HC1 := Lib.hid hc1
  have U1 : Upd [b] w w1 := (Upd.of_below (bAlloc (Below.refl _ _) _)).trans hu1
  have q0 := uBox hu1 w.heap.size (by simp) (by simp; omega)
  have f0 := uBoxF hu1 w.heap.size (by simp) (by simp; omega)
  have z1 : w.heap.size < w1.heap.size := by have := hu1.size; simp at this; omega
  clear hc1 HC
  go_wp2_with fail
  refine Calls.mono (l01Below_c hy'.out hn HC1.out 41 (by omega) (by omega)) ?_
  rintro e w2 ⟨x, rfl, hx0, hx1, hc2, hu2⟩
  have HC2 := Lib.hid hc2
  have U2 := U1.trans hu2
  have q1 := uBox hu2 w.heap.size z1 (by simp; omega)
  have f1 := uBoxF hu2 w.heap.size z1 (by simp; omega)
  have z2 : w.heap.size < w2.heap.size := by have := hu2.size; omega
  clear hc2 HC1
  go_wp2_with fail
  refine Calls.mono (l01Below_c hy'.out hn HC2.out 41 (by omega) (by omega)) ?_
  rintro e w3 ⟨y, rfl, hy0, hy1, hc3, hu3⟩
  have U3 := U2.trans hu3
  have q2 := uBox hu3 w.heap.size z2 (by simp; omega)
  have f2 := uBoxF hu3 w.heap.size z2 (by simp; omega)
  have z3 : w.heap.size < w3.heap.size := by have := hu3.size; omega
  have hc4 := ((hc3.set_ (p := ⟨w.heap.size, 0, none⟩) hlt (.int .i64 t)).set_ (p := ⟨w.heap.size, 1, none⟩) hlt (.int .i64 (x - 20))).set_ (p := ⟨w.heap.size, 2, none⟩) hlt (.int .i64 (y - 20))
  have U4 := ((U3.set_new (p := ⟨w.heap.size, 0, none⟩) (Nat.le_refl _) (.int .i64 t)).set_new (p := ⟨w.heap.size, 1, none⟩) (Nat.le_refl _) (.int .i64 (x - 20))).set_new (p := ⟨w.heap.size, 2, none⟩) (Nat.le_refl _) (.int .i64 (y - 20))
  clear hc3 HC2
  go_wp2
  exact bodyPost_ret (v := vPose t (x - 20) (y - 20)) (by simp [*, results, Try.results29, go_sem]) rfl ⟨t, x - 20, y - 20, rfl, ⟨by omega, by omega, by omega, by omega, by omega, by omega⟩, hc4, U4⟩
theorem l16Pose_c {W w : World} {b : Nat} {A : Option Addr} {n c : Nat} (hy : Bytes W A n) (hn : n ≤ 1048576) (h : Cur W w b A n c) :
    Calls Try.prog 35 #[.pointer (some ⟨b, 0, none⟩)] w fun e w' => ∃ x, e = .returned (.string x) ∧ x ∈ [(⟨#[112, 48]⟩ : ByteArray), ⟨#[112, 49]⟩, ⟨#[112, 50]⟩, ⟨#[112, 51]⟩] ∧ Cur W w' b A n c ∧ Upd [b] w w' := by
  have hlt := h.lt
  have hy' := Lib.hid hy
  have HC := Lib.hid (h.below (bAlloc (Below.refl _ _) (.cells #[.string ⟨#[112, 48]⟩, .string ⟨#[112, 49]⟩, .string ⟨#[112, 50]⟩, .string ⟨#[112, 51]⟩] 9)))
  have hrow := Lib.hid (str_row w [(⟨#[112, 48]⟩ : ByteArray), ⟨#[112, 49]⟩, ⟨#[112, 50]⟩, ⟨#[112, 51]⟩])
  clear h hy
  go_enter Try.func35, Try.ntmps35
  go_wp2_with fail
  refine Calls.mono (l01Str_c hy'.out hn HC.out _ 4 4 _ hrow.out (by omega) (by omega) (by omega)) ?_
  rintro e w1 ⟨x, rfl, hx, hc1, hu1⟩
  have HX := Lib.hid hx
  clear hx
  go_wp2
  go_ret
  exact ⟨x, rfl, HX.out, hc1, (Upd.of_below (bAlloc (Below.refl _ _) _)).trans hu1⟩
end Go.Proofs.Ytgpmmmfnbphgdaa
