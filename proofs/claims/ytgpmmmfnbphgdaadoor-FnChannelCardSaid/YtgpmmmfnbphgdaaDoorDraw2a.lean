/- A number is drawn out of a row. -/
import Derived.Test.YtgpmmmfnbphgdaaDoorDraw
import Derived.Test.YtgpmmmfnbphgdaaDoorFlat
namespace Go.Proofs.YtgpmmmfnbphgdaaDoor
open Go.RowKit
set_option linter.unusedVariables false
set_option linter.unusedSimpArgs false
set_option maxHeartbeats 1000000
set_option maxRecDepth 100000
theorem Row.upd_ {w w' : World} {A : Option Addr} {n sz : Nat} {css : List (List Value)} {fs : List Nat} (h : Row w A n sz css) (hu : Upd fs w w') (hd : ∀ g off, A = some ⟨g, off, none⟩ → g ∉ fs) : Row w' A n sz css :=
  ⟨h.1, fun i cs hi => by
    obtain ⟨g, off, rfl, hc⟩ := h.2 i cs hi
    exact ⟨g, off, rfl, fun j v hv => (uBox hu g (cell_lt (hc j v hv)) (hd g off rfl) _).trans (hc j v hv)⟩⟩
theorem l01Pick_c {W w : World} {b : Nat} {A : Option Addr} {n c : Nat} (hy : Bytes W A n) (hn : n ≤ 1048576) (h : Cur W w b A n c) (g m cp : Nat) (l : List Int) (hr : RowI w (some ⟨g, 0, none⟩) m l) (hg : g ≠ b) (h0 : 0 < m) (h1 : m ≤ 256) :
    Calls Tryd.prog 65 #[.pointer (some ⟨b, 0, none⟩), .slice (some ⟨g, 0, none⟩) m cp] w fun e w' => ∃ x, e = rInt x ∧ x ∈ l ∧ Cur W w' b A n c ∧ Upd [b] w w' := by
  have HC := Lib.hid h
  have hy' := Lib.hid hy
  have hr' := Lib.hid hr
  clear h hy hr
  have hmi0 : (0 : Int) < (m : Int) := by omega
  have hmi1 : (m : Int) ≤ 256 := by omega
  go_enter Tryd.func65, Tryd.ntmps65
  go_wp2_with fail
  refine Calls.mono (l01Below_c hy'.out hn HC.out (m : Int) (by omega) (by omega)) ?_
  rintro e w1 ⟨x, rfl, hx0, hx1, hc1, hu1⟩
  obtain ⟨k, rfl⟩ := Int.eq_ofNat_of_zero_le hx0
  have hk : k < m := by omega
  obtain ⟨v, g', off', hv, hA, hcell⟩ := RowI.at_ (hr'.out.upd_ hu1 (fun g2 off2 e => by simp only [Option.some.injEq, Addr.mk.injEq] at e; simp; omega)) hk
  simp only [Option.some.injEq, Addr.mk.injEq, and_true] at hA
  obtain ⟨rfl, rfl⟩ := hA
  rw [Nat.zero_add] at hcell
  go_wp2
  go_ret
  exact ⟨v, rfl, List.mem_of_getElem? hv.out, hc1, hu1⟩
end Go.Proofs.YtgpmmmfnbphgdaaDoor
