/- BuildIndex: the contracts as the law asks for them. -/
import Derived.Test.YtbfajhfmfdiacaaBuild
import Derived.Test.YtbfajhfmfdiacaaAdd2
import Derived.Test.YtbfajhfmfdiacaaNear2
namespace Go.Proofs.Ytbfajhfmfdiacaa
open Go.RowKit
set_option linter.unusedVariables false
theorem impl_BuildIndex_k (v : Sv) (l : List Place) (w : World) (hm : bulkP l ≤ 1048576) (hok : okP l) (hr : OwP w v l) :
    Calls Try.prog 14 #[.slice v.A v.n v.c] w fun e w' => ∃ v' : XV, e = .returned (.tuple #[vPIdx v', .bool (buildIdx l).2]) ∧ OwX w' v' (buildIdx l).1 ∧ Fresh w.heap.size w' (fpX v') ∧ Below w.heap.size w w' :=
  impl_BuildIndex_kk v l w (by have := hr.rd.len.out; unfold bulkP at hm; omega) hr (smallP (l := l) (by unfold bulkP at hm; unfold Hid; omega))
end Go.Proofs.Ytbfajhfmfdiacaa
