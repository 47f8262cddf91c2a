/- StepChannel: the program; no move. -/
import Derived.Test.YtgpmmmfnbphgdaaDoorChnT
namespace Go.Proofs.YtgpmmmfnbphgdaaDoor
open Go.RowKit
set_option linter.unusedVariables false
set_option linter.unusedSimpArgs false
set_option maxHeartbeats 4000000
set_option maxRecDepth 100000
/-- a new channel, laid into a box that is there -/
theorem CB.start3 {w w1 w2 : World} {v : CV} {c : Chan} {B' b0 : Nat} {sd : List Side} (h : OwC w1 v c) (hf : Fresh B' w1 (fpC v)) (hb : Below w.heap.size w w1) (hb0 : w.heap.size ≤ b0) (hB : b0 < B') (hx : Own w2 0 26 6 (some ⟨b0, 0, none⟩) 1 1 [cChan v c.base c.expected]) (hg : w1.grownBy w2 (some b0))
    (hs : ∀ s ∈ sd, s.ok w1 ∧ s.b < B' ∧ s.b ≠ b0 ∧ w.heap.size ≤ s.b) : CB w [] w.heap.size b0 v c sd w2 := by
  have hu := upd1 hg
  have hn : ∀ q ∈ fpC v, q ≠ b0 := fun q hq e => by have := hf.lo q hq; omega
  refine ⟨h.upd hu (fun q hq hm => by simp only [List.mem_singleton] at hm; exact hn q hq hm), ⟨hf.nodup, fun q hq => by have := hf.lo q hq; omega, fun q hq => Nat.lt_of_lt_of_le (hf.hi q hq) hu.size⟩, fun q hq => .inr (by have := hf.lo q hq; omega), fun hm => hn _ hm rfl, hx, hb0, Nat.le_refl _, fun s hm => ?_, ?_⟩
  · have H := hs s hm
    exact ⟨H.1.upd hu (fun q hq hm => by simp [obl, ob] at hq; simp only [List.mem_singleton] at hm; exact H.2.2.1 (hq ▸ hm)), fun hq => by have := hf.lo _ hq; omega, H.2.2.1, H.2.2.2⟩
  · have u0 : Upd [] w w1 := Upd.of_below hb
    exact ⟨hu.os.trans u0.os, hu.tape.trans u0.tape, hu.output.trans u0.output, Nat.le_trans u0.size hu.size, fun i hi hn => (hu.block i (Nat.lt_of_lt_of_le hi u0.size) (fun hm => by simp only [List.mem_singleton] at hm; omega)).trans (u0.block i hi hn)⟩
theorem moveC_out {c : Chan} {mv at_ : Int} (h : ¬ (1 ≤ mv ∧ mv ≤ 7)) : moveC c mv at_ = c := by
  unfold moveC
  rw [if_neg (by omega), if_neg (by omega), if_neg (by omega)]
theorem impl_step_out (v : CV) (c : Chan) (mv at_ : Int) (w : World) {m : Int} (hok : OKC m c) (hfw : fewC c) (hr : RdC w v c) (hat : -9223372036854775808 ≤ at_ ∧ at_ ≤ 9223372036854775807) (hT : Tab w) (h7 : ¬ (1 ≤ mv ∧ mv ≤ 7)) :
    Calls Tryd.prog 67 #[vChan v c.base c.expected, .int .i64 mv, .int .i64 at_] w fun e w' => SPost w (moveC c mv at_) e w' := by
  have OK := Lib.hid hok
  have HAT := Lib.hid hat
  have HT := Lib.hid hT
  clear hok hat hT
  go_enter Tryd.func67, Tryd.ntmps67
  go_wp2_with fail
  refine Calls.mono (copyChannel_k v c _ hfw ?_) ?_
  · exact hr.below (bAlloc (bAlloc (Below.refl _ _) _) _)
  rintro e w1 ⟨v1, rfl, ho, hf, hb1⟩
  have hbx := Lib.hid (Own.below (Own.box (t := 26) (cs := cChan v c.base c.expected) (sz := 6) (box2 w _ _) rfl) hb1)
  have hsd : Hid (∀ s ∈ [(⟨w.heap.size + 1, 26, zC⟩ : Side)], s.ok w1 ∧ s.b < w.heap.size + 2 ∧ s.b ≠ w.heap.size ∧ w.heap.size ≤ s.b) := by
    intro s hs
    simp only [List.mem_cons, List.not_mem_nil, or_false] at hs
    subst hs
    exact ⟨Side.below (w := _) (Own.box (box_new2 w _ _) rfl) hb1, by simp, by simp, by simp⟩
  have H1 := Lib.hid (bTrans (bAlloc (bAlloc (Below.refl w.heap.size w) _) _) hb1)
  have hf' := hf.rebase (show w.heap.size + 2 ≤ _ by simp)
  have ho := Lib.hid ho
  have hf := Lib.hid hf'
  clear hf' hb1
  have hqn : v1.q.n = c.queue.length := by have h1 := ho.out.q.len; rw [List.length_map] at h1; exact h1.symm
  have hnn : v1.n.n = c.net.length := by have h1 := ho.out.n.len; rw [List.length_map] at h1; exact h1.symm
  have han : v1.a.n = c.acks.length := by have h1 := ho.out.a.len; rw [List.length_map] at h1; exact h1.symm
  have HQN := Lib.hid hqn; have HNN := Lib.hid hnn; have HAN := Lib.hid han
  clear hqn hnn han
  · have hE : Hid (moveC c mv at_ = c) := moveC_out h7
    have n1 : ¬ mv = 1 := by omega
    have n2 : ¬ mv = 2 := by omega
    have n3 : ¬ mv = 3 := by omega
    have n4 : ¬ mv = 4 := by omega
    have n5 : ¬ mv = 5 := by omega
    have n6 : ¬ mv = 6 := by omega
    have n7 : ¬ mv = 7 := by omega
    clear h7
    have tok : True := trivial
    go_wp2_with (have _t := tok; refine wpList_store_elem rfl 26 (.tmp 3) (.tmp 9) rfl 0 26 6 1 1 w.heap.size 0 0 rfl _ rfl _ (cChan v1 c.base c.expected) rfl rfl rfl (one_of rfl) sz_Chan hbx.out (by omega) ?_; clear tok _t; intro w2 hx2 hg2; have CB1 := Lib.hid (CB.start3 (sd := [⟨w.heap.size + 1, 26, zC⟩]) ho.out hf.out H1.out (Nat.le_refl _) (by omega) hx2 hg2 hsd.out); obtain ⟨x0, x1, x2, x3, x4, x5, xf, xz⟩ := CB.at6 CB1.out; obtain ⟨r0, r1, r2, r3, r4, r5, rf, rz⟩ := CB.res6 CB1.out (Upd.refl [] _) (fun q hq => by cases hq) (b := w.heap.size + 1) (t := 26) (by simp); clear hx2 hg2)
    refine bodyPost_ret (v := vChan v1 c.base c.expected) (by simp [*, results, Tryd.results67, go_sem]) rfl ?_
    rw [hE.out]
    exact SPost.mk (b0 := 0) (CB.fin CB1.out (s := ⟨w.heap.size + 1, 26, zC⟩) (by simp) (((((((Upd.refl _ _).set_in (by simp) _).set_in (by simp) _).set_in (by simp) _).set_in (by simp) _).set_in (by simp) _).set_in (by simp) _))
end Go.Proofs.YtgpmmmfnbphgdaaDoor
