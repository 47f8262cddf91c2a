/- Texts put together; cells of a block just made. -/
import Derived.Test.YtgpmmmfnbphgdaaDoorFmt
import Derived.Test.YtgpmmmfnbphgdaaDoorTab
import Derived.BigQuiet
import Derived.Deep.Quiet
namespace Go.Proofs.YtgpmmmfnbphgdaaDoor
open Go.RowKit
set_option linter.unusedVariables false
set_option linter.unusedSimpArgs false
set_option maxHeartbeats 1000000
set_option maxRecDepth 100000
/-- two texts, put together: the sum under a name, with its length -/
theorem cat (a b : ByteArray) (n m : Nat) (ha : a.size ≤ n) (hb : b.size ≤ m) (h : n + m ≤ 1099511627776) : ∃ s : ByteArray, Hid (a ++ b = s) ∧ s.size ≤ n + m ∧ ∀ w, (Op.stringOp .add a b).run Tryd.prog w = .ok (.string s) w :=
  ⟨a ++ b, rfl, by rw [ByteArray.size_append]; omega, catOk (by omega)⟩
theorem cells_a {w : World} {cs : Array Value} {t : TypeId} {k : Nat} {v : Value} (h : cs[k]? = some v) : (w.alloc (.cells cs t)).cell? ⟨w.heap.size, k, none⟩ = some v := by
  have e : (w.alloc (.cells cs t)).heap[w.heap.size]? = some (.cells cs t) := heap_alloc_new w _
  unfold World.cell?
  rw [e]
  exact h
theorem cells_d {w : World} {cs : Array Value} {t : TypeId} {k : Nat} {v : Value} (h : cs[k]? = some v) : ((w.alloc (.cells cs t)).drew).cell? ⟨w.heap.size, k, none⟩ = some v := cells_a h
end Go.Proofs.YtgpmmmfnbphgdaaDoor
