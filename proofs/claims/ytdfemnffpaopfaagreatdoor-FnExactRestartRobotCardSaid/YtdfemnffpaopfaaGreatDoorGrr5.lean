/- Texts of this proof, one behind the other: Draw. -/
import Derived.BigQuiet
import Derived.Lib.Hide
import Derived.Test.YtdfemnffpaopfaaGreatDoorGrr1
import Derived.Test.YtdfemnffpaopfaaGreatDoorGrr3
/- The draws' cursor over a code: l01New, l01Byte, l01Below, l32New, MakeNum: what is known of their answers: numbers in their ranges. -/
namespace Go.Proofs.YtdfemnffpaopfaaGreatDoor
open Go.RowKit
set_option linter.unusedVariables false
set_option linter.unusedSimpArgs false
set_option maxHeartbeats 1000000
set_option maxRecDepth 100000
/-- what masks leave -/
def m255 (y : Int) : Int := bits .and .i64 y 255
def m30 (y : Int) : Int := bits .and .i64 y 1073741823
/-- a slice's cells are bytes -/
def Bytes (w : World) (A : Option Addr) (n : Nat) : Prop := ∀ i, i < n → ∃ g off x, A = some ⟨g, off, none⟩ ∧ 0 ≤ x ∧ x ≤ 255 ∧ w.cell? ⟨g, off + i, none⟩ = some (.int .u8 x)
theorem Bytes.below {w w' : World} {A : Option Addr} {n : Nat} (h : Bytes w A n) (hb : Below w.heap.size w w') : Bytes w' A n := fun i hi => by
  obtain ⟨g, off, x, h1, h2, h3, h4⟩ := h i hi
  exact ⟨g, off, x, h1, h2, h3, bCell hb h4⟩
/-- the cursor's box lies at block b, made since W; it holds the code, a place in it, a number -/
structure Cur (W w : World) (b : Nat) (A : Option Addr) (n c : Nat) : Prop where
  hB : Below W.heap.size W w
  hb : W.heap.size ≤ b
  c0 : w.cell? ⟨b, 0, none⟩ = some (.slice A n c)
  c1 : ∃ i : Nat, i ≤ n ∧ w.cell? ⟨b, 1, none⟩ = some (.int .i64 i)
  c2 : ∃ h : Int, w.cell? ⟨b, 2, none⟩ = some (.int .i64 h)
  fz : ∀ o, w.frozen? ⟨b, o, none⟩ = false
theorem Cur.lt {W w : World} {b : Nat} {A : Option Addr} {n c : Nat} (h : Cur W w b A n c) : b < w.heap.size := cell_lt h.c0
theorem Cur.below {W w w' : World} {b : Nat} {A : Option Addr} {n c : Nat} (h : Cur W w b A n c) (hb : Below w.heap.size w w') : Cur W w' b A n c := by
  obtain ⟨i, hi, h1⟩ := h.c1
  obtain ⟨k, h2⟩ := h.c2
  exact ⟨bTrans h.hB hb, h.hb, bCell hb h.c0, ⟨i, hi, bCell hb h1⟩, ⟨k, bCell hb h2⟩, fun o => (bBoxF hb b h.lt o).trans (h.fz o)⟩
theorem Upd.drewN {fs : List Nat} {a w : World} (h : Upd fs a w) (n : Nat) : Upd fs a (w.drewN n) := ⟨h.os, h.tape, h.output, h.size, h.block⟩
end Go.Proofs.YtdfemnffpaopfaaGreatDoor

