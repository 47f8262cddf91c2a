/- The names of a factor list: the reference's way. -/
import Derived.Test.YtgpmmmfnbphgdaaNmOf
namespace Go.Proofs.Ytgpmmmfnbphgdaa
open Go.RowKit
set_option linter.unusedVariables false
set_option linter.unusedSimpArgs false
set_option maxHeartbeats 800000
set_option maxRecDepth 100000
def StInv (L : List ByteArray) (f : Factor) (j : Nat) (M : List ByteArray) : Prop := M = ([f.frm, f.to].take j).foldl addNm L
theorem StInv.step {L M : List ByteArray} {f : Factor} {j : Nat} {s : ByteArray} (h : StInv L f j M) (hs : Hid ([f.frm, f.to][j]? = some s)) : StInv L f (j + 1) (addNm M s) := by
  obtain ⟨hj, rfl⟩ := List.getElem?_eq_some_iff.1 hs.out
  unfold StInv at *
  rw [List.take_succ_eq_append_getElem hj, List.foldl_append, ← h]
  rfl
theorem StInv.done {L M : List ByteArray} {f : Factor} {j : Nat} (h : StInv L f j M) (hj : ¬ j < 2) : namesF L f = M := by
  unfold StInv at h
  rw [h, List.take_of_length_le (by simp; omega)]
  rfl
end Go.Proofs.Ytgpmmmfnbphgdaa
