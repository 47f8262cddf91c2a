/- The laws' helpers on slices of entries. -/
import Derived.Test.YtgpmmmfnbphgdaaValid
import Derived.Test.YtgpmmmfnbphgdaaOwn
import Derived.Test.YtgpmmmfnbphgdaaProg
import Derived.Test.YtgpmmmfnbphgdaaTo
import Derived.Test.YtgpmmmfnbphgdaaLaw
import Derived.BigQuiet
import Derived.Deep.QuietTactic
import Derived.StillTailTactics
import Derived.Deep.RegionHeld3
namespace Go.Proofs.Ytgpmmmfnbphgdaa
open Go.RowKit
set_option linter.unusedVariables false
set_option linter.unusedSimpArgs false
set_option maxHeartbeats 1000000
def Entry.cells (f : Entry) : List Value := .bool f.remove :: .int .i64 f.id :: f.factor.cells
def Entry.bulk (f : Entry) : Nat := f.factor.bulk
abbrev RowN (w : World) (A : Option Addr) (n : Nat) (l : List Entry) : Prop := Row w A n 10 (l.map Entry.cells)
theorem RowN.at_ {w : World} {A : Option Addr} {n : Nat} {l : List Entry} (h : RowN w A n l) {k : Nat} (hk : k < n) :
    ∃ (f : Entry) (g off : Nat), Hid (l[k]? = some f) ∧ A = some ⟨g, off, none⟩ ∧ w.cell? ⟨g, off + k * 10, none⟩ = some (.bool f.remove) ∧ w.cell? ⟨g, off + k * 10 + 1, none⟩ = some (.int .i64 f.id) ∧ w.cell? ⟨g, off + k * 10 + 2, none⟩ = some (.int .i64 f.factor.id) ∧ w.cell? ⟨g, off + k * 10 + 3, none⟩ = some (.int .i64 f.factor.kind) ∧ w.cell? ⟨g, off + k * 10 + 4, none⟩ = some (.string f.factor.frm) ∧ w.cell? ⟨g, off + k * 10 + 5, none⟩ = some (.string f.factor.to) ∧
      w.cell? ⟨g, off + k * 10 + 6, none⟩ = some (.int .i64 f.factor.pose.turn) ∧ w.cell? ⟨g, off + k * 10 + 7, none⟩ = some (.int .i64 f.factor.pose.x) ∧ w.cell? ⟨g, off + k * 10 + 8, none⟩ = some (.int .i64 f.factor.pose.y) ∧ w.cell? ⟨g, off + k * 10 + 9, none⟩ = some (.int .i64 f.factor.weight) := by
  obtain ⟨f, g, off, hf, hA, hc⟩ := Row.at_ h hk
  exact ⟨f, g, off, hf, hA, hc 0 _ rfl, hc 1 _ rfl, hc 2 _ rfl, hc 3 _ rfl, hc 4 _ rfl, hc 5 _ rfl, hc 6 _ rfl, hc 7 _ rfl, hc 8 _ rfl, hc 9 _ rfl⟩
end Go.Proofs.Ytgpmmmfnbphgdaa
