/- StepChannel: the program's own door. -/
import Derived.Test.YtgpmmmfnbphgdaaDoorChnI1
import Derived.Test.YtgpmmmfnbphgdaaDoorChnI2
import Derived.Test.YtgpmmmfnbphgdaaDoorChnI3
namespace Go.Proofs.YtgpmmmfnbphgdaaDoor
open Go.RowKit
set_option linter.unusedVariables false
set_option linter.unusedSimpArgs false
set_option maxHeartbeats 4000000
set_option maxRecDepth 100000
theorem impl_step_k (v : CV) (c : Chan) (mv at_ : Int) (w : World) {m : Int} (hok : OKC m c) (hfw : fewC c) (hr : RdC w v c) (hat : -9223372036854775808 ≤ at_ ∧ at_ ≤ 9223372036854775807) (hT : Tab w) :
    Calls Tryd.prog 67 #[vChan v c.base c.expected, .int .i64 mv, .int .i64 at_] w fun e w' => SPost w (moveC c mv at_) e w' := by
  by_cases h7 : 1 ≤ mv ∧ mv ≤ 7
  · have h8 : mv = 1 ∨ mv = 2 ∨ mv = 3 ∨ mv = 4 ∨ mv = 5 ∨ mv = 6 ∨ mv = 7 := by omega
    rcases h8 with rfl | rfl | rfl | rfl | rfl | rfl | rfl
    · exact impl_step_1 v c at_ w hok hfw hr hat hT
    · exact impl_step_2 v c at_ w hok hfw hr hat hT
    · exact impl_step_3 v c at_ w hok hfw hr hat hT
    · exact impl_step_4 v c at_ w hok hfw hr hat hT
    · exact impl_step_5 v c at_ w hok hfw hr hat hT
    · exact impl_step_6 v c at_ w hok hfw hr hat hT
    · exact impl_step_7 v c at_ w hok hfw hr hat hT
  · exact impl_step_out v c mv at_ w hok hfw hr hat hT h7
theorem impl_StepChannel_k (v : CV) (c : Chan) (mv at_ : Int) (w : World) (hm : bulkC c ≤ 1048576) (hok : okC c) (hr : RdC w v c) (hmv : wfI mv) (hat : wfI at_) (hT : Tab w) :
    Calls Tryd.prog 17 #[vChan v c.base c.expected, .int .i64 mv, .int .i64 at_] w fun e w' => SPost w (stepC c mv at_) e w' := by
  have hfw := fewC_of hm
  have hwb := hok.2.2.2.2.1
  have HM := Lib.hid hm
  have HOK := Lib.hid hok
  have HAT := Lib.hid (wf_range hat)
  have HT := Lib.hid hT
  generalize hb1 : isChan c = b1
  have HB1 := Lib.hid hb1
  clear hm hok hb1 hat hT hmv
  go_enter Tryd.func17, Tryd.ntmps17
  go_wp2_with fail
  refine Calls.mono (impl_IsChannel_c v c _ hwb ?_) ?_
  · exact hr.below (bAlloc (bAlloc (Below.refl _ _) _) _)
  rw [HB1.out]
  rintro e w1 ⟨rfl, hb1⟩
  have H1 := bTrans (bAlloc (bAlloc (Below.refl w.heap.size w) _) _) hb1
  have k0 := bBox hb1 w.heap.size (by simp; omega)
  have f0 := bBoxF hb1 w.heap.size (by simp; omega)
  have k1 := bBox hb1 (w.heap.size + 1) (by simp)
  have f1 := bBoxF hb1 (w.heap.size + 1) (by simp)
  have z1 : w.heap.size + 2 ≤ w1.heap.size := bsz2 hb1
  have q0 : w.heap.size < w1.heap.size := by omega
  have q1 : w.heap.size + 1 < w1.heap.size := by omega
  have RD := Lib.hid (hr.below H1)
  have HT1 := Lib.hid (HT.out.below H1)
  have HH := Lib.hid H1
  clear hb1 H1
  cases b1
  · have hE := Lib.hid (stepC_no (mv := mv) (at_ := at_) HB1.out)
    go_wp2_with fail
    refine Calls.mono (copyChannel_k v c _ hfw ?_) ?_
    · exact RD.out
    rintro e w2 ⟨v2, rfl, ho, hf, hb2⟩
    have k2 := bBox hb2 (w.heap.size + 1) q1
    have f2 := bBoxF hb2 (w.heap.size + 1) q1
    have hn : w.heap.size + 1 ∉ fpC v2 := fun hm => by have := hf.lo _ hm; omega
    have q2 : w.heap.size + 1 < w2.heap.size := Nat.lt_of_lt_of_le q1 hb2.size
    have H2 := Lib.hid (bTrans HH.out hb2)
    have HO := Lib.hid ho
    have HF := Lib.hid (hf.rebase HH.out.size)
    clear ho hf hb2
    go_wp2_with fail
    refine bodyPost_ret (v := vChan v2 c.base c.expected) (by simp [*, results, Tryd.results17, go_sem]) rfl ?_
    rw [hE.out]
    have hu : Upd [w.heap.size + 1] w2 (((((((w2.setCell ⟨w.heap.size + 1, 0, none⟩ (.slice v2.q.A v2.q.n v2.q.c)).setCell ⟨w.heap.size + 1, 1, none⟩ (.int .i64 c.base)).setCell ⟨w.heap.size + 1, 2, none⟩ (.int .i64 c.expected)).setCell ⟨w.heap.size + 1, 3, none⟩ (.slice v2.i.A v2.i.n v2.i.c)).setCell ⟨w.heap.size + 1, 4, none⟩ (.slice v2.n.A v2.n.n v2.n.c)).setCell ⟨w.heap.size + 1, 5, none⟩ (.slice v2.a.A v2.a.n v2.a.c))) := ((((((Upd.refl _ _).set_in (by simp) _).set_in (by simp) _).set_in (by simp) _).set_in (by simp) _).set_in (by simp) _).set_in (by simp) _
    exact ⟨v2, rfl, HO.out.upd hu (fun q hq hm => by simp only [List.mem_singleton] at hm; exact hn (hm ▸ hq)), HF.out.grow hu.size, bUpd H2.out hu (fun q hq => by simp at hq; omega)⟩
  · have hE := Lib.hid (stepC_yes (mv := mv) (at_ := at_) HB1.out)
    have OK := Lib.hid (OKC.start HB1.out HM.out HOK.out)
    go_wp2_with fail
    refine Calls.mono (impl_step_k v c mv at_ _ OK.out hfw ?_ HAT.out ?_) ?_
    · exact RD.out
    · exact HT1.out
    rw [← hE.out]
    generalize hDD : stepC c mv at_ = D
    have HD := Lib.hid hDD
    clear hDD hE
    rintro e w2 ⟨v2, rfl, ho, hf, hb2⟩
    have k2 := bBox hb2 (w.heap.size + 1) q1
    have f2 := bBoxF hb2 (w.heap.size + 1) q1
    have hn : w.heap.size + 1 ∉ fpC v2 := fun hm => by have := hf.lo _ hm; omega
    have q2 : w.heap.size + 1 < w2.heap.size := Nat.lt_of_lt_of_le q1 hb2.size
    have H2 := Lib.hid (bTrans HH.out hb2)
    have HO := Lib.hid ho
    have HF := Lib.hid (hf.rebase HH.out.size)
    clear ho hf hb2
    go_wp2_with fail
    refine bodyPost_ret (v := vChan v2 D.base D.expected) (by simp [*, results, Tryd.results17, go_sem]) rfl ?_
    rw [HD.out]
    have hu : Upd [w.heap.size + 1] w2 (((((((w2.setCell ⟨w.heap.size + 1, 0, none⟩ (.slice v2.q.A v2.q.n v2.q.c)).setCell ⟨w.heap.size + 1, 1, none⟩ (.int .i64 D.base)).setCell ⟨w.heap.size + 1, 2, none⟩ (.int .i64 D.expected)).setCell ⟨w.heap.size + 1, 3, none⟩ (.slice v2.i.A v2.i.n v2.i.c)).setCell ⟨w.heap.size + 1, 4, none⟩ (.slice v2.n.A v2.n.n v2.n.c)).setCell ⟨w.heap.size + 1, 5, none⟩ (.slice v2.a.A v2.a.n v2.a.c))) := ((((((Upd.refl _ _).set_in (by simp) _).set_in (by simp) _).set_in (by simp) _).set_in (by simp) _).set_in (by simp) _).set_in (by simp) _
    exact ⟨v2, rfl, HO.out.upd hu (fun q hq hm => by simp only [List.mem_singleton] at hm; exact hn (hm ▸ hq)), HF.out.grow hu.size, bUpd H2.out hu (fun q hq => by simp at hq; omega)⟩
end Go.Proofs.YtgpmmmfnbphgdaaDoor
