/- Texts of this proof, one behind the other: TmC. -/
import Derived.Test.YtdfemnffpaopfaaGreatDoorGmf40
import Derived.Test.YtdfemnffpaopfaaGreatDoorGmf41
namespace Go.Proofs.YtdfemnffpaopfaaGreatDoor
open Go.RowKit
set_option linter.unusedVariables false
set_option linter.unusedSimpArgs false
set_option maxHeartbeats 8000000
set_option maxRecDepth 100000
theorem OT.ch_mem {B:Nat} {w:World} {v:TV} {t:Team} {i j:Nat} {row:List Chan} {c:Chan} (h:OT B w v t) (hB:B≤w.heap.size) (hi:t.channels[i]? = some row) (hj:row[j]? = some c) {gt g n k:Nat} (hA:v.c.A=some ⟨gt,0,none⟩)
    (hc:w.cell? ⟨gt,i,none⟩=some (.slice (some ⟨g,0,none⟩) n k)):g∈fpT v:=by
  obtain ⟨cst,gt2,vs,css,g2,vc,h1,h2,h3,h4,h5,k1,k2,k3,k4,k5,k6,k7,k8,k9⟩:=h.chan hB hi hj
  rw [h3] at h1 hA
  obtain rfl:gt2=gt:=by simpa using hA
  have e:=own_cells h1 h2 0 _ rfl
  simp only [Nat.mul_one,Nat.add_zero] at e
  rw [hc] at e
  obtain rfl:g=g2:=by simp at e;exact e.1
  exact k7 _ (List.mem_cons_of_mem _ List.mem_cons_self)
end Go.Proofs.YtdfemnffpaopfaaGreatDoor
