/- Place indices: how they lie in memory; the laws' helpers on them. -/
import Derived.Test.YtbfajhfmfdiacaaFlat
import Derived.Test.YtbfajhfmfdiacaaOpen
import Derived.Test.YtbfajhfmfdiacaaObj
import Derived.Test.YtbfajhfmfdiacaaData
import Derived.Test.YtbfajhfmfdiacaaOwn
import Derived.Test.YtbfajhfmfdiacaaProg
import Derived.Test.YtbfajhfmfdiacaaTo
import Derived.BigQuiet
import Derived.Deep.QuietTactic
import Derived.StillTailTactics
import Derived.Deep.RegionHeld3
import Derived.Test.YtbfajhfmfdiacaaMark2
namespace Go.Proofs.Ytbfajhfmfdiacaa
open Go.RowKit
set_option linter.unusedVariables false
set_option linter.unusedSimpArgs false
set_option maxHeartbeats 1600000
set_option maxRecDepth 100000
structure XV where
  p : Sv
  e : Sv
abbrev vPIdx (v : XV) : Value := .agg #[.slice v.p.A v.p.n v.p.c, .slice v.e.A v.e.n v.e.c]
structure RdX (w : World) (v : XV) (x : PIdx) : Prop where
  p : RdP w v.p x.places
  e : RdL w v.e x.entries
structure OwX (w : World) (v : XV) (x : PIdx) : Prop where
  p : OwP w v.p x.places
  e : OwL w v.e x.entries
def fpX (v : XV) : List Nat := fpP v.p ++ fpL v.e
theorem OwX.rd {w : World} {v : XV} {t : PIdx} (h : OwX w v t) : RdX w v t := ⟨h.p.rd, h.e.rd⟩
theorem RdX.below {w w' : World} {v : XV} {t : PIdx} (h : RdX w v t) (hb : Below w.heap.size w w') : RdX w' v t := ⟨h.p.below hb, h.e.below hb⟩
theorem OwX.lt {w : World} {v : XV} {t : PIdx} (h : OwX w v t) : ∀ k ∈ fpX v, k < w.heap.size := by
  intro k hk
  rcases List.mem_append.1 hk with hk | hk
  · exact h.p.lt k hk
  · exact h.e.lt k hk
theorem OwX.keep {w w' : World} {v : XV} {t : PIdx} (h : OwX w v t) (hw : ∀ k ∈ fpX v, w'.heap[k]? = w.heap[k]?) : OwX w' v t :=
  ⟨h.p.keep fun k hk => hw k (List.mem_append.2 (.inl hk)), h.e.keep fun k hk => hw k (List.mem_append.2 (.inr hk))⟩
theorem OwX.below {w w' : World} {v : XV} {t : PIdx} (h : OwX w v t) (hb : Below w.heap.size w w') : OwX w' v t := h.keep fun k hk => hb.block k (h.lt k hk)
theorem OwX.upd {w w' : World} {v : XV} {t : PIdx} {fs : List Nat} (h : OwX w v t) (hu : Upd fs w w') (hd : ∀ k ∈ fpX v, k ∉ fs) : OwX w' v t := h.keep fun k hk => hu.block k (h.lt k hk) (hd k hk)
def okX (x : PIdx) : Prop := okP x.places ∧ okL x.entries
def lenX (v : XV) : Prop := lenP v.p ∧ lenL v.e
def bulkX (x : PIdx) : Nat := bulkP x.places + bulkL x.entries
def fewX (x : PIdx) : Prop := fewP x.places ∧ fewL x.entries
theorem fewX_of {x : PIdx} (h : bulkX x ≤ 1048576) : fewX x := ⟨fewP_of (by unfold bulkX at h; omega), fewL_of (by unfold bulkX at h; omega)⟩
def cntX (x : PIdx) : Nat := cntP x.places + cntL x.entries
def mkX (k : Int) (x : PIdx) : PIdx := ⟨mkP k x.places, mkL (k + cntP x.places) x.entries⟩
theorem cntX_few {x : PIdx} (h : fewX x) : (cntX x : Int) ≤ 20000000 := by
  have h1 := h.1; have h2 := h.2
  unfold fewP at h1; unfold fewL at h2; unfold cntX cntP cntL; omega
theorem idx_end {w w1 w2 X1 X2 : World} {vp ve : Sv} {x : PIdx} (H : Below w.heap.size w w1) (hz : w.heap.size + 3 ≤ w1.heap.size)
    (hop : OwP w1 vp x.places) (hlo : Hid (∀ q ∈ fpP vp, w.heap.size + 3 ≤ q)) (hfp : Fresh 0 w1 (fpP vp)) (u1 : Upd [w.heap.size + 1, w.heap.size + 1 + 1] w1 X1) (hb2 : Below X1.heap.size X1 w2)
    (hoe : OwL w2 ve x.entries) (hfe : Fresh X1.heap.size w2 (fpL ve)) (u2 : Upd [w.heap.size + 1, w.heap.size + 1 + 1] w2 X2) :
    OwX X2 ⟨vp, ve⟩ x ∧ Fresh w.heap.size X2 (fpX ⟨vp, ve⟩) ∧ Below w.heap.size w X2 := by
  have U1 := (u1.then_below hb2).trans u2
  have a0 : ∀ k ∈ [w.heap.size + 1, w.heap.size + 1 + 1], k < w.heap.size + 3 := by intro k hk; simp at hk; omega
  have s1 := u1.size; have s2 := u2.size; have y2 := hb2.size
  refine ⟨⟨hop.upd U1 (fun k hk hm => by have h1 := hlo.out k hk; have h2 := a0 k hm; omega), hoe.upd u2 (fun k hk hm => by have h1 := hfe.lo k hk; have h2 := a0 k hm; omega)⟩, ?_, bUpd H U1 (fun k hk => by simp at hk; omega)⟩
  have hfp' : Fresh w.heap.size w1 (fpP vp) := ⟨hfp.nodup, fun g hg => by have := hlo.out g hg; omega, hfp.hi⟩
  exact hfp'.then_ (hfe.grow s2) (by omega) (by omega) (by omega)
end Go.Proofs.Ytbfajhfmfdiacaa
