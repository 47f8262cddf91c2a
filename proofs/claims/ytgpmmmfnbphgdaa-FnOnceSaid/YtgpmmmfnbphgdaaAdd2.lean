/- Factors are added: what the reference's AddFactor answers. -/
import Derived.Test.YtgpmmmfnbphgdaaAdd
namespace Go.Proofs.Ytgpmmmfnbphgdaa
open Go.RowKit
set_option linter.unusedVariables false
set_option linter.unusedSimpArgs false
set_option maxHeartbeats 2000000
set_option maxRecDepth 100000
theorem made_any (w : World) (B e sz : Nat) {a : Nat} (h : a = w.heap.size) (hB : B ≤ w.heap.size) : Own (w.alloc (.cells #[] e)) B e sz (some ⟨a, 0, none⟩) 0 0 [] := by subst h; exact Own.made0 w e sz hB
/-- an older slice behind three appends to a newer one -/
theorem same_kept {wr X w3 w4 w5 : World} {B e sz n c : Nat} {A : Option Addr} {css : List (List Value)} {r1 r2 r3 : Option Nat} {o : Obj} (h : Own wr B e sz A n c css) (hx : Below wr.heap.size wr X)
    (g1 : X.grownBy w3 r1) (g2 : (w3.alloc o).grownBy w4 r2) (g3 : w4.grownBy w5 r3) (h1 : ∀ q, r1 = some q → wr.heap.size ≤ q) (h2 : ∀ q, r2 = some q → wr.heap.size ≤ q) (h3 : ∀ q, r3 = some q → wr.heap.size ≤ q) : Own w5 B e sz A n c css := by
  have hb : Below wr.heap.size wr w5 := bGrown (bGrown (bAlloc (bGrown hx g1 h1) _) g2 h2) g3 h3
  exact h.below hb
end Go.Proofs.Ytgpmmmfnbphgdaa
