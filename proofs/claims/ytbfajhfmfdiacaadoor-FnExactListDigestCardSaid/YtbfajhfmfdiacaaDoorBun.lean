/- Bundles: how they lie in memory; the laws' helpers on them. -/
import Derived.Test.YtbfajhfmfdiacaaDoorFlat
import Derived.Test.YtbfajhfmfdiacaaDoorOpen
namespace Go.Proofs.YtbfajhfmfdiacaaDoor
open Go.RowKit
set_option linter.unusedVariables false
set_option linter.unusedSimpArgs false
set_option maxHeartbeats 400000
set_option maxRecDepth 100000
def RdB (w : World) (v : Sv) (b : Bundle) : Prop := RdF w v b.factors
def OwB (w : World) (v : Sv) (b : Bundle) : Prop := OwF w v b.factors
def fpB (v : Sv) : List Nat := obl v.A
def lenB (v : Sv) : Prop := v.n ≤ maxLen
def okB (b : Bundle) : Prop := wfI b.robot ∧ okF b.factors
def bulkB (b : Bundle) : Nat := bulkF b.factors
def fewB (b : Bundle) : Prop := fewF b.factors
theorem fewB_of {b : Bundle} (h : bulkB b ≤ 1048576) : fewB b := fewF_of h
def cntB (b : Bundle) : Nat := cntF b.factors
def mkB (k : Int) (b : Bundle) : Bundle := ⟨b.robot, mkF k b.factors⟩
theorem cntB_few {b : Bundle} (h : fewB b) : (cntB b : Int) ≤ 10000000 := by unfold cntB cntF; unfold fewB fewF at h; omega
theorem RdB.len {w : World} {v : Sv} {b : Bundle} (h : RdB w v b) : Hid (b.factors.length = v.n) := RdF.len h
theorem OwB.rd {w : World} {v : Sv} {b : Bundle} (h : OwB w v b) : RdB w v b := OwF.rd h
theorem RdB.below {w w' : World} {v : Sv} {b : Bundle} (h : RdB w v b) (hb : Below w.heap.size w w') : RdB w' v b := RdF.below h hb
theorem OwB.below {w w' : World} {v : Sv} {b : Bundle} (h : OwB w v b) (hb : Below w.heap.size w w') : OwB w' v b := OwF.below h hb
theorem OwB.upd {w w' : World} {v : Sv} {b : Bundle} {fs : List Nat} (h : OwB w v b) (hu : Upd fs w w') (hd : ∀ k ∈ fpB v, k ∉ fs) : OwB w' v b := OwF.upd h hu hd
theorem OwB.lt {w : World} {v : Sv} {b : Bundle} (h : OwB w v b) : ∀ k ∈ fpB v, k < w.heap.size := OwF.lt h
theorem OwB.keep {w w' : World} {v : Sv} {b : Bundle} (h : OwB w v b) (hw : ∀ k ∈ fpB v, w'.heap[k]? = w.heap[k]?) : OwB w' v b := OwF.keep h hw
theorem bun_end {w w1 X : World} {v1 : Sv} {b : Bundle} {B : Nat} (hlo : Hid (∀ q ∈ fpF v1, w.heap.size + 3 ≤ q)) (ho : OwF w1 v1 b.factors) (hf : Fresh B w1 (fpF v1)) (H : Below w.heap.size w w1) (hz : w.heap.size + 3 ≤ w1.heap.size)
    (u : Upd [w.heap.size + 1, w.heap.size + 1 + 1] w1 X) : OwB X v1 b ∧ Fresh w.heap.size X (fpB v1) ∧ Below w.heap.size w X := by
  have a0 : ∀ k ∈ [w.heap.size + 1, w.heap.size + 1 + 1], k < w.heap.size + 3 := by intro k hk; simp at hk; omega
  refine ⟨OwF.upd ho u (fun k hk hm => by have h1 := hlo.out k hk; have h2 := a0 k hm; omega), ⟨hf.nodup, fun g hg => by have := hlo.out g hg; omega, fun g hg => Nat.lt_of_lt_of_le (hf.hi g hg) u.size⟩, bUpd H u (fun k hk => by simp at hk; omega)⟩
theorem szBundle_k (v : Sv) (b : Bundle) (left : Int) (w : World) (h1 : 0 ≤ left) (h2 : left ≤ 1048576) (hl : lenB v) (hok : okB b) (hr : RdB w v b) :
    Calls Tryd.prog 34 #[vBundle b.robot v.A v.n v.c, .int .i64 left] w fun e w' => SzPost left (bulkB b) e ∧ Below w.heap.size w w' := by
  have ok2 := hok.2
  go_enter Tryd.func34, Tryd.ntmps34
  go_wp2_with fail
  refine Calls.mono (szFactorS_k v b.factors left _ h1 h2 hl ok2 ?_) ?_
  · exact RdF.below hr (bAlloc (Below.refl _ _) _)
  rintro e w1 ⟨⟨r0, rfl, hp⟩, hb1⟩
  have H := bTrans (bAlloc (Below.refl w.heap.size w) _) hb1
  rcases hp with rfl | ⟨hp0, hp1⟩
  · go_wp2_with fail
    go_ret
    exact ⟨⟨_, rfl, .inl rfl⟩, H⟩
  · have hp2 : ¬ r0 < 0 := by omega
    go_wp2_with fail
    go_ret
    exact ⟨⟨_, rfl, .inr ⟨hp0, hp1⟩⟩, H⟩
theorem toBundle_k (v : Sv) (b : Bundle) (w : World) (hm : fewB b) (hr : RdB w v b) :
    Calls Tryd.prog 36 #[vBundle b.robot v.A v.n v.c] w fun e w' => ∃ v' : Sv, e = .returned (vBundle b.robot v'.A v'.n v'.c) ∧ OwB w' v' b ∧ Fresh w.heap.size w' (fpB v') ∧ Below w.heap.size w w' := by
  go_enter Tryd.func36, Tryd.ntmps36
  go_wp2_with fail
  refine Calls.mono (toFactorS_k v b.factors _ hm ?_) ?_
  · exact RdF.below hr (by repeat (first | with_reducible exact Below.refl _ _ | with_reducible refine bAlloc ?_ _ | (with_reducible refine bSet ?_ ?_ _; rotate_left; simp; try omega)))
  rintro e w1 ⟨v1, rfl, ho, hf, hb1⟩
  have H := bTrans (by repeat (first | with_reducible exact Below.refl _ _ | with_reducible refine bAlloc ?_ _ | (with_reducible refine bSet ?_ ?_ _; rotate_left; simp; try omega)) : Below w.heap.size w _) hb1
  have hz1 : w.heap.size + 3 ≤ w1.heap.size := by have := hb1.size; simp at this; omega
  have k0 := bBox hb1 (w.heap.size) (by simp; try omega)
  have k1 := bBox hb1 (w.heap.size + 1) (by simp; try omega)
  have k2 := bBox hb1 (w.heap.size + 1 + 1) (by simp; try omega)
  have f1 := bBoxF hb1 (w.heap.size + 1) (by simp; try omega)
  have f2 := bBoxF hb1 (w.heap.size + 1 + 1) (by simp; try omega)
  have hlo : Hid (∀ q ∈ fpF v1, w.heap.size + 3 ≤ q) := fun q hq => by have h1 := hf.lo q hq; simp at h1; omega
  go_wp2_with fail
  refine bodyPost_ret (v := vBundle b.robot v1.A v1.n v1.c) (by simp [*, results, Tryd.results36, go_sem]) rfl ⟨v1, rfl, ?_⟩
  exact bun_end hlo ho hf H hz1 (by repeat (first | with_reducible exact Upd.refl _ _ | (with_reducible refine Upd.set_in ?_ ?_ _); rotate_left; simp))
theorem eqBundle_k (v v2 : Sv) (b : Bundle) (w : World) (hm : fewB b) (hr : RdB w v b) (hr2 : RdB w v2 b) :
    Calls Tryd.prog 38 #[vBundle b.robot v.A v.n v.c, vBundle b.robot v2.A v2.n v2.c] w fun e w' => e = rBool true ∧ Below w.heap.size w w' := by
  go_enter Tryd.func38, Tryd.ntmps38
  go_wp2_with fail
  refine Calls.mono (eqFactorS_k v v2 b.factors _ hm ?_ ?_) ?_
  · exact RdF.below hr (bAlloc (bAlloc (Below.refl _ _) _) _)
  · exact RdF.below hr2 (bAlloc (bAlloc (Below.refl _ _) _) _)
  rintro e w1 ⟨rfl, hb1⟩
  go_wp2
  go_ret
  exact ⟨rfl, bTrans (bAlloc (bAlloc (Below.refl _ _) _) _) hb1⟩
theorem bulkF_small {l : List Factor} (h : bulkF l ≤ 1048576) : ∀ f ∈ l, f.frm.size ≤ 1048576 ∧ f.to.size ≤ 1048576 := smallF (by unfold bulkF at h; unfold Hid; omega)
theorem spec_IsValidBundle_k (v : Sv) (b : Bundle) (w : World) (hm : bulkB b ≤ 1048576) (hok : okB b) (hr : RdB w v b) :
    Calls Tryd.prog 68 #[vBundle b.robot v.A v.n v.c] w fun e w' => e = rBool (isBundle b.robot b.factors) ∧ Below w.heap.size w w' :=
  spec_IsValidBundle_c b.robot v.A v.n v.c b.factors w (by have := hr.len.out; unfold bulkB bulkF at hm; omega) hr (bulkF_small hm)
theorem impl_IsValidBundle_k (v : Sv) (b : Bundle) (w : World) (hm : bulkB b ≤ 1048576) (hok : okB b) (hr : RdB w v b) :
    Calls Tryd.prog 69 #[vBundle b.robot v.A v.n v.c] w fun e w' => e = rBool (isBundle b.robot b.factors) ∧ Below w.heap.size w w' :=
  impl_IsValidBundle_c b.robot v.A v.n v.c b.factors w (by have := hr.len.out; unfold bulkB bulkF at hm; omega) hr (bulkF_small hm)
theorem cells_facS : Tryd.prog.cellsOf 62 = 1 := by kernel_rfl
theorem cells_Bundle : Tryd.prog.cellsOf 70 = 2 := by kernel_rfl
def cBundle (v : Sv) (b : Bundle) : List Value := [.int .i64 b.robot, .slice v.A v.n v.c]
def gBundle (w : World) (cs : List Value) : Prop := ∃ (v : Sv) (b : Bundle), cs = cBundle v b ∧ RdB w v b ∧ okB b ∧ lenB v
theorem opens_Bundle (w : World) : Opens Tryd.prog w 70 (gBundle w) := fun H enc base fuel spare held cs x h => by
  obtain ⟨hl, hf⟩ := opens_field Tryd.underlying70 h
  rw [cells_Bundle] at hl
  obtain ⟨a, b, rfl⟩ := len2 hl
  obtain ⟨n0, e0, w0⟩ := hf 0 _ gInt rfl (opens_int Tryd.underlying3)
  obtain ⟨A, n, c, l, e1, h1, h2, h3⟩ := rowF_of (hf 1 _ _ rfl (opens_FactorS w))
  simp [cells_int, cells_facS] at e0 e1
  subst e0 e1
  exact ⟨⟨A, n, c⟩, ⟨n0, l⟩, rfl, h2, ⟨w0, h3⟩, h1⟩
end Go.Proofs.YtbfajhfmfdiacaaDoor
