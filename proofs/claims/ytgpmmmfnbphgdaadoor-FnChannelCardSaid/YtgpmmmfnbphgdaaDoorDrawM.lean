/- A move is drawn: MakeMove. -/
import Derived.Test.YtgpmmmfnbphgdaaDoorDraw2a
namespace Go.Proofs.YtgpmmmfnbphgdaaDoor
open Go.RowKit
set_option linter.unusedVariables false
set_option linter.unusedSimpArgs false
set_option maxHeartbeats 1000000
set_option maxRecDepth 100000
/-- a row of numbers, just made -/
theorem int_row (w : World) (l : List Int) : RowI (w.alloc (.cells (l.map (Value.int .i64)).toArray 3)) (some ⟨w.heap.size, 0, none⟩) l.length l := by
  refine ⟨by simp, fun i cs hi => ⟨w.heap.size, 0, rfl, fun j v hv => ?_⟩⟩
  have e : (w.alloc (.cells (l.map (Value.int .i64)).toArray 3)).heap[w.heap.size]? = some (.cells (l.map (Value.int .i64)).toArray 3) := heap_alloc_new w _
  unfold World.cell?
  rw [e]
  rw [List.getElem?_map] at hi
  cases hl : l[i]? with
  | none => rw [hl] at hi; cases hi
  | some s =>
    rw [hl] at hi
    simp only [Option.map_some, Option.some.injEq] at hi
    subst hi
    match j with
    | 0 =>
      simp [intCells] at hv
      subst hv
      simp [hl]
    | j + 1 => simp [intCells] at hv
theorem MakeMove_c {W w : World} {A : Option Addr} {n c : Nat} (hB : Below W.heap.size W w) (hy : Bytes W A n) (hn : n ≤ 1048576) (k : Nat) (hk : k ≤ 1000) :
    Calls Tryd.prog 15 #[.slice A n c, .int .i64 (k : Int)] w fun e w' => ∃ x y : Int, e = .returned (.tuple #[.int .i64 x, .int .i64 y]) ∧ -9223372036854775808 ≤ x ∧ x ≤ 9223372036854775807 ∧ -9223372036854775808 ≤ y ∧ y ≤ 9223372036854775807 ∧ Below w.heap.size w w' := by
  have hy' := Lib.hid hy
  have hN := Lib.hid (l32New_c (c := c) hB hy hn (2 * k + 3) (by omega))
  rw [show (((2 * k + 3 : Nat)) : Int) = 2 * (k : Int) + 3 by omega] at hN
  clear hB hy
  go_enter Tryd.func15, Tryd.ntmps15
  go_wp2_with fail
  refine Calls.mono hN.out ?_
  rintro e w1 ⟨b, rfl, hb, hc1, hb1⟩
  have hrow := Lib.hid (int_row w1 [1, 1, 2, 2, 2, 3, 4, 5, 6, 6, 7])
  have HC := Lib.hid (hc1.below (bAlloc (Below.refl _ _) (.cells #[.int .i64 1, .int .i64 1, .int .i64 2, .int .i64 2, .int .i64 2, .int .i64 3, .int .i64 4, .int .i64 5, .int .i64 6, .int .i64 6, .int .i64 7] 3)))
  have hbl := hc1.lt
  have B1 := Lib.hid hb1
  clear hc1 hb1 hN
  go_wp2_with fail
  refine Calls.mono (l01Pick_c hy'.out hn HC.out _ 11 11 _ hrow.out (by omega) (by omega) (by omega)) ?_
  rintro e w2 ⟨x, rfl, hx, hc2, hu2⟩
  have hx1 : 1 ≤ x ∧ x ≤ 7 := by
    simp at hx
    omega
  have B2 := Lib.hid (bUpd1 (W := w) (bTrans B1.out (bAlloc (Below.refl _ _) (.cells #[.int .i64 1, .int .i64 1, .int .i64 2, .int .i64 2, .int .i64 2, .int .i64 3, .int .i64 4, .int .i64 5, .int .i64 6, .int .i64 6, .int .i64 7] 3))) hu2 hb)
  have HC2 := Lib.hid hc2
  clear hc2 hu2 HC hx
  go_wp2_with fail
  refine Calls.mono (l01Below_c hy'.out hn HC2.out 4 (by omega) (by omega)) ?_
  rintro e w3 ⟨y, rfl, hy0, hy1, hc3, hu3⟩
  have B3 := Lib.hid (bUpd1 (W := w) B2.out hu3 hb)
  clear hc3 hu3 HC2
  go_wp2_with fail
  go_ret2
  exact ⟨x, y, rfl, by omega, by omega, by omega, by omega, B3.out⟩
end Go.Proofs.YtgpmmmfnbphgdaaDoor
