/- Texts of this proof, one behind the other: ChnKI, ChnK. -/
import Derived.Maps.RangeWalk
import Derived.Test.YtdfemnffpaopfaaGreatDoorGrs38
import Derived.Test.YtdfemnffpaopfaaGreatDoorGrs45
namespace Go.Proofs.YtdfemnffpaopfaaGreatDoor
open Go.RowKit
set_option linter.unusedVariables false
set_option linter.unusedSimpArgs false
set_option maxHeartbeats 4000000
set_option maxRecDepth 100000
theorem SPost.fin {w W X:World} {v:CV} {c:Chan} {b1 B:Nat} (ho:OwC W v c) (hf:Fresh B W (fpC v)) (hB:b1 < B) (h1:w.heap.size≤b1) (hb:Below w.heap.size w W) (hu:Upd [b1] W X):SPost w c (.returned (vChan v c.base c.expected)) X :=
  ⟨v,rfl,ho.upd hu (fun q hq hm=>by simp only [List.mem_singleton] at hm;have:=hf.lo q hq;omega),(hf.rebase (by omega)).grow hu.size,bUpd hb hu (fun q hq=>by simp at hq;omega)⟩

end Go.Proofs.YtdfemnffpaopfaaGreatDoor
