/- Bundles: how they lie in memory; the laws' helpers on them. -/
import Derived.Test.YtgpmmmfnbphgdaaFlat
import Derived.Test.YtgpmmmfnbphgdaaOpen
namespace Go.Proofs.Ytgpmmmfnbphgdaa
open Go.RowKit
set_option linter.unusedVariables false
set_option linter.unusedSimpArgs false
set_option maxHeartbeats 400000
set_option maxRecDepth 100000
def RdB (w : World) (v : Sv) (b : Bundle) : Prop := RdF w v b.factors
def OwB (w : World) (v : Sv) (b : Bundle) : Prop := OwF w v b.factors
def fpB (v : Sv) : List Nat := obl v.A
def lenB (v : Sv) : Prop := v.n ≤ maxLen
def okB (b : Bundle) : Prop := wfI b.robot ∧ okF b.factors
def bulkB (b : Bundle) : Nat := bulkF b.factors
def fewB (b : Bundle) : Prop := fewF b.factors
theorem fewB_of {b : Bundle} (h : bulkB b ≤ 1048576) : fewB b := fewF_of h
def cntB (b : Bundle) : Nat := cntF b.factors
def mkB (k : Int) (b : Bundle) : Bundle := ⟨b.robot, mkF k b.factors⟩
theorem cntB_few {b : Bundle} (h : fewB b) : (cntB b : Int) ≤ 10000000 := by unfold cntB cntF; unfold fewB fewF at h; omega
theorem RdB.len {w : World} {v : Sv} {b : Bundle} (h : RdB w v b) : Hid (b.factors.length = v.n) := RdF.len h
theorem OwB.rd {w : World} {v : Sv} {b : Bundle} (h : OwB w v b) : RdB w v b := OwF.rd h
theorem RdB.below {w w' : World} {v : Sv} {b : Bundle} (h : RdB w v b) (hb : Below w.heap.size w w') : RdB w' v b := RdF.below h hb
theorem OwB.below {w w' : World} {v : Sv} {b : Bundle} (h : OwB w v b) (hb : Below w.heap.size w w') : OwB w' v b := OwF.below h hb
theorem OwB.upd {w w' : World} {v : Sv} {b : Bundle} {fs : List Nat} (h : OwB w v b) (hu : Upd fs w w') (hd : ∀ k ∈ fpB v, k ∉ fs) : OwB w' v b := OwF.upd h hu hd
theorem OwB.lt {w : World} {v : Sv} {b : Bundle} (h : OwB w v b) : ∀ k ∈ fpB v, k < w.heap.size := OwF.lt h
theorem OwB.keep {w w' : World} {v : Sv} {b : Bundle} (h : OwB w v b) (hw : ∀ k ∈ fpB v, w'.heap[k]? = w.heap[k]?) : OwB w' v b := OwF.keep h hw
theorem bun_end {w w1 X : World} {v1 : Sv} {b : Bundle} {B : Nat} (hlo : Hid (∀ q ∈ fpF v1, w.heap.size + 3 ≤ q)) (ho : OwF w1 v1 b.factors) (hf : Fresh B w1 (fpF v1)) (H : Below w.heap.size w w1) (hz : w.heap.size + 3 ≤ w1.heap.size)
    (u : Upd [w.heap.size + 1, w.heap.size + 1 + 1] w1 X) : OwB X v1 b ∧ Fresh w.heap.size X (fpB v1) ∧ Below w.heap.size w X := by
  have a0 : ∀ k ∈ [w.heap.size + 1, w.heap.size + 1 + 1], k < w.heap.size + 3 := by intro k hk; simp at hk; omega
  refine ⟨OwF.upd ho u (fun k hk hm => by have h1 := hlo.out k hk; have h2 := a0 k hm; omega), ⟨hf.nodup, fun g hg => by have := hlo.out g hg; omega, fun g hg => Nat.lt_of_lt_of_le (hf.hi g hg) u.size⟩, bUpd H u (fun k hk => by simp at hk; omega)⟩
theorem bulkF_small {l : List Factor} (h : bulkF l ≤ 1048576) : ∀ f ∈ l, f.frm.size ≤ 1048576 ∧ f.to.size ≤ 1048576 := smallF (by unfold bulkF at h; unfold Hid; omega)
theorem impl_IsValidBundle_k (v : Sv) (b : Bundle) (w : World) (hm : bulkB b ≤ 1048576) (hok : okB b) (hr : RdB w v b) :
    Calls Try.prog 7 #[vBundle b.robot v.A v.n v.c] w fun e w' => e = rBool (isBundle b.robot b.factors) ∧ Below w.heap.size w w' :=
  impl_IsValidBundle_c b.robot v.A v.n v.c b.factors w (by have := hr.len.out; unfold bulkB bulkF at hm; omega) hr (bulkF_small hm)
end Go.Proofs.Ytgpmmmfnbphgdaa
