/- StepChannel: the reference. -/
import Derived.Test.YtgpmmmfnbphgdaaDoorChnO
import Derived.Test.YtgpmmmfnbphgdaaDoorChanFn
namespace Go.Proofs.YtgpmmmfnbphgdaaDoor
open Go.RowKit
set_option linter.unusedVariables false
set_option linter.unusedSimpArgs false
set_option maxHeartbeats 2000000
set_option maxRecDepth 100000
/-- a channel's box at the side -/
theorem CB.chan6 {w0 w w1 : World} {fs : List Nat} {B b0 : Nat} {v : CV} {c : Chan} {sd : List Side} {gs : List Nat} (h : CB w0 fs B b0 v c sd w) (hu : Upd gs w w1) (hg : ∀ q ∈ gs, q ∈ fpC v) {b t : Nat} {v2 : CV} {b2 e2 : Int} (hs : (⟨b, t, cChan v2 b2 e2⟩ : Side) ∈ sd) : w1.cell? ⟨b, 0, none⟩ = some (.slice v2.q.A v2.q.n v2.q.c) ∧ w1.cell? ⟨b, 1, none⟩ = some (.int .i64 b2) ∧ w1.cell? ⟨b, 2, none⟩ = some (.int .i64 e2) ∧ w1.cell? ⟨b, 3, none⟩ = some (.slice v2.i.A v2.i.n v2.i.c) ∧ w1.cell? ⟨b, 4, none⟩ = some (.slice v2.n.A v2.n.n v2.n.c) ∧ w1.cell? ⟨b, 5, none⟩ = some (.slice v2.a.A v2.a.n v2.a.c) ∧ (∀ o, w1.frozen? ⟨b, o, none⟩ = false) ∧ b < w1.heap.size :=
  have K := h.s_kept hu hg hs
  ⟨(K.1 0).trans (h.s_cell hs 0 _ rfl), (K.1 1).trans (h.s_cell hs 1 _ rfl), (K.1 2).trans (h.s_cell hs 2 _ rfl), (K.1 3).trans (h.s_cell hs 3 _ rfl), (K.1 4).trans (h.s_cell hs 4 _ rfl), (K.1 5).trans (h.s_cell hs 5 _ rfl), K.2, Nat.lt_of_lt_of_le (h.slt hs) hu.size⟩
theorem box_new2 (w : World) (o o2 : Obj) : ((w.alloc o).alloc o2).heap[w.heap.size + 1]? = some o2 := by have := heap_alloc_new (w.alloc o) o2; simpa using this
theorem Side.below {w w' : World} {s : Side} (h : s.ok w) (hb : Below w.heap.size w w') : s.ok w' := Own.below h hb
/-- a new channel in a new box -/
theorem CB.start2 {w w1 : World} {v : CV} {c : Chan} {B' : Nat} {sd : List Side} (h : OwC w1 v c) (hf : Fresh B' w1 (fpC v)) (hb : Below w.heap.size w w1) (hB : w.heap.size ≤ B') (hs : ∀ s ∈ sd, s.ok w1 ∧ s.b < B' ∧ w.heap.size ≤ s.b) :
    CB w [] w.heap.size w1.heap.size v c sd (w1.alloc (.cells (cChan v c.base c.expected).toArray 26)) :=
  ⟨h.below (bAlloc (Below.refl _ _) _), ⟨hf.nodup, fun q hq => Nat.le_trans hB (hf.lo q hq), fun q hq => by have := hf.hi q hq; simp; omega⟩, fun q hq => .inr (Nat.le_trans hB (hf.lo q hq)), fun hm => by have := hf.hi _ hm; omega, Own.box (heap_alloc_new w1 _) rfl, hb.size, Nat.le_refl _,
    fun s hm =>
      have H := hs s hm
      ⟨H.1.below (bAlloc (Below.refl _ _) _), fun hq => by have := hf.lo _ hq; omega, by have := H.1.lt1; omega, H.2.2⟩, Upd.of_below (bAlloc hb _)⟩
/-- what a call made of the channel is laid into a box at the side -/
theorem CB.fin2 {w0 W W' X : World} {fs : List Nat} {B b0 : Nat} {v v' : CV} {c c' : Chan} {sd : List Side} (h : CB w0 fs B b0 v c sd W) {s : Side} (hs : s ∈ sd) (ho : OwC W' v' c') (hf : Fresh B W' (fpC v')) (hm : ∀ q ∈ fpC v', q ∈ fpC v ∨ W.heap.size ≤ q) (hu : Upd (fpC v) W W') (hx : Upd [s.b] W' X) :
    OwC X v' c' ∧ Fresh B X (fpC v') ∧ (∀ q ∈ fpC v', q ∈ fs ∨ w0.heap.size ≤ q) ∧ Upd fs w0 X := by
  have H := h.sid s hs
  have hlt := h.slt hs
  have hsz := h.up.size
  have hn : s.b ∉ fpC v' := fun hq => (hm _ hq).elim H.2.1 (fun e => by omega)
  refine ⟨ho.upd hx (fun q hq hx => by simp only [List.mem_singleton] at hx; exact hn (hx ▸ hq)), ⟨hf.nodup, hf.lo, fun q hq => Nat.lt_of_lt_of_le (hf.hi q hq) hx.size⟩, fun q hq => (hm q hq).elim (h.mv q) (fun e => .inr (by omega)), ?_⟩
  have u1 : Upd fs w0 W' := ⟨hu.os.trans h.up.os, hu.tape.trans h.up.tape, hu.output.trans h.up.output, Nat.le_trans h.up.size hu.size, fun i hi hn => (hu.block i (Nat.lt_of_lt_of_le hi h.up.size) (fun hm => (h.mv i hm).elim hn (fun hh => by omega))).trans (h.up.block i hi hn)⟩
  exact ⟨hx.os.trans u1.os, hx.tape.trans u1.tape, hx.output.trans u1.output, Nat.le_trans u1.size hx.size, fun i hi hn => (hx.block i (Nat.lt_of_lt_of_le hi u1.size) (fun hm => by simp only [List.mem_singleton] at hm; have := H.2.2.2; omega)).trans (u1.block i hi hn)⟩
theorem below_upd {w w' : World} (h : Upd [] w w') : Below w.heap.size w w' := bUpd (Below.refl _ _) h (fun q hq => by cases hq)
/-- what a step hands back -/
def SPost (w : World) (c : Chan) (e : Ending) (w' : World) : Prop := ∃ v', e = .returned (vChan v' c.base c.expected) ∧ OwC w' v' c ∧ Fresh w.heap.size w' (fpC v') ∧ Below w.heap.size w w'
theorem SPost.mk {w X : World} {v' : CV} {c : Chan} {b0 : Int} (h : OwC X v' c ∧ Fresh w.heap.size X (fpC v') ∧ (∀ q ∈ fpC v', q ∈ ([] : List Nat) ∨ w.heap.size ≤ q) ∧ Upd [] w X) : SPost w c (.returned (vChan v' c.base c.expected)) X := ⟨v', rfl, h.1, h.2.1, below_upd h.2.2.2⟩
theorem stepC_no {c : Chan} {mv at_ : Int} (h : isChan c = false) : stepC c mv at_ = c := by unfold stepC; rw [h]; rfl
theorem stepC_out {c : Chan} {mv at_ : Int} (h : inR mv 1 7 = false) : stepC c mv at_ = c := by
  have h9 : ¬ (1 ≤ mv ∧ mv ≤ 7) := fun k => by rw [inR_iff.2 k] at h; cases h
  unfold stepC moveC
  split
  · rw [if_neg (by omega), if_neg (by omega), if_neg (by omega)]
  · rfl
theorem stepC_yes {c : Chan} {mv at_ : Int} (h : isChan c = true) : stepC c mv at_ = moveC c mv at_ := by unfold stepC; rw [if_pos h]
theorem spec_StepChannel_k (v : CV) (c : Chan) (mv at_ : Int) (w : World) (hm : bulkC c ≤ 1048576) (hok : okC c) (hr : RdC w v c) (hmv : wfI mv) (hat : wfI at_) :
    Calls Tryd.prog 21 #[vChan v c.base c.expected, .int .i64 mv, .int .i64 at_] w fun e w' => SPost w (stepC c mv at_) e w' := by
  have hfw := fewC_of hm
  have m0 : v.q.n ≤ 4194304 := by have := hr.q.len.out; unfold fewC at hfw; omega
  have HM := Lib.hid hm
  have HOK := Lib.hid hok
  have HAT := Lib.hid (wf_range hat)
  generalize hb1 : isChan c = b1
  generalize hb2 : inR mv 1 7 = b2
  have HB1 := Lib.hid hb1
  have HB2 := Lib.hid hb2
  clear hm hok hb1 hb2 hat hmv
  go_enter Tryd.func21, Tryd.ntmps21
  go_wp2_with fail
  refine Calls.mono (l29Copy_k v c _ hfw ?_) ?_
  · exact hr.below (bAlloc (bAlloc (Below.refl _ _) _) _)
  rintro e w1 ⟨v1, rfl, ho, hf, hb1⟩
  have H1 := bTrans (bAlloc (bAlloc (Below.refl w.heap.size w) _) _) hb1
  have CB1 : Hid (CB w [] w.heap.size w1.heap.size v1 c [⟨w.heap.size, 26, cChan v c.base c.expected⟩, ⟨w.heap.size + 1, 26, zC⟩] (w1.alloc (.cells #[.slice v1.q.A v1.q.n v1.q.c, .int .i64 c.base, .int .i64 c.expected, .slice v1.i.A v1.i.n v1.i.c, .slice v1.n.A v1.n.n v1.n.c, .slice v1.a.A v1.a.n v1.a.c] 26))) := (CB.start2 (sd := [⟨w.heap.size, 26, cChan v c.base c.expected⟩, ⟨w.heap.size + 1, 26, zC⟩]) ho hf H1 (by simp; omega) (by
    intro s hs
    simp only [List.mem_cons, List.not_mem_nil, or_false] at hs
    rcases hs with rfl | rfl
    · exact ⟨Side.below (w := _) (Own.box (box2 w _ _) rfl) hb1, by simp; omega, Nat.le_refl _⟩
    · exact ⟨Side.below (w := _) (Own.box (box_new2 w _ _) rfl) hb1, by simp, by simp⟩))
  obtain ⟨x0, x1, x2, x3, x4, x5, xf, xz⟩ := CB.at6 CB1.out
  obtain ⟨a0, a1, a2, a3, a4, a5, af, az⟩ := CB.chan6 CB1.out (Upd.refl [] _) (fun q hq => by cases hq) (b := w.heap.size) (t := 26) (v2 := v) (b2 := c.base) (e2 := c.expected) (by simp)
  obtain ⟨r0, r1, r2, r3, r4, r5, rf, rz⟩ := CB.res6 CB1.out (Upd.refl [] _) (fun q hq => by cases hq) (b := w.heap.size + 1) (t := 26) (by simp)
  have RD1 := Lib.hid (hr.below (bAlloc H1 (.cells #[.slice v1.q.A v1.q.n v1.q.c, .int .i64 c.base, .int .i64 c.expected, .slice v1.i.A v1.i.n v1.i.c, .slice v1.n.A v1.n.n v1.n.c, .slice v1.a.A v1.a.n v1.a.c] 26)))
  clear ho hf hb1 H1
  go_wp2_with fail
  refine Calls.mono (spec_IsChannel_c v c _ m0 ?_) ?_
  · exact RD1.out
  rw [HB1.out]
  rintro e w2 ⟨rfl, hb2⟩
  have CB2 := Lib.hid (CB.below CB1.out hb2)
  obtain ⟨x0, x1, x2, x3, x4, x5, xf, xz⟩ := CB.at6 CB2.out
  obtain ⟨a0, a1, a2, a3, a4, a5, af, az⟩ := CB.chan6 CB2.out (Upd.refl [] _) (fun q hq => by cases hq) (b := w.heap.size) (t := 26) (v2 := v) (b2 := c.base) (e2 := c.expected) (by simp)
  obtain ⟨r0, r1, r2, r3, r4, r5, rf, rz⟩ := CB.res6 CB2.out (Upd.refl [] _) (fun q hq => by cases hq) (b := w.heap.size + 1) (t := 26) (by simp)
  clear hb2 CB1
  cases b1
  · go_wp2_with fail
    refine bodyPost_ret (v := vChan v1 c.base c.expected) (by simp [*, results, Tryd.results21, go_sem]) rfl ?_
    rw [stepC_no HB1.out]
    exact SPost.mk (b0 := 0) (CB.fin CB2.out (s := ⟨w.heap.size + 1, 26, zC⟩) (by simp) (((((((Upd.refl _ _).set_in (by simp) _).set_in (by simp) _).set_in (by simp) _).set_in (by simp) _).set_in (by simp) _).set_in (by simp) _))
  go_wp2_with fail
  refine Calls.mono (l01In_c _ _ _ _) ?_
  rw [HB2.out]
  rintro e w3 ⟨rfl, rfl⟩
  cases b2
  · go_wp2_with fail
    refine bodyPost_ret (v := vChan v1 c.base c.expected) (by simp [*, results, Tryd.results21, go_sem]) rfl ?_
    rw [stepC_out HB2.out]
    exact SPost.mk (b0 := 0) (CB.fin CB2.out (s := ⟨w.heap.size + 1, 26, zC⟩) (by simp) (((((((Upd.refl _ _).set_in (by simp) _).set_in (by simp) _).set_in (by simp) _).set_in (by simp) _).set_in (by simp) _).set_in (by simp) _))
  have OK := Lib.hid (OKC.start HB1.out HM.out HOK.out)
  have hmv := inR_iff.1 HB2.out
  clear HB2
  have h7 : mv = 1 ∨ mv = 2 ∨ mv = 3 ∨ mv = 4 ∨ mv = 5 ∨ mv = 6 ∨ mv = 7 := by omega
  clear hmv
  rcases h7 with rfl | rfl | rfl | rfl | rfl | rfl | rfl
  · have hE : Hid (stepC c 1 at_ = sendC c) := stepC_yes HB1.out
    have hS := fun W ho hf hB => spec_send_k (m := 0) v1 c w.heap.size W OK.out ho hf hB
    generalize sendC c = D at *
    go_wp2_with fail
    refine Calls.mono (hS _ CB2.out.ow CB2.out.fr CB2.out.up.size) ?_
    rintro e w4 ⟨v4, rfl, ho4, hf4, hm4, hu4⟩
    obtain ⟨r0, r1, r2, r3, r4, r5, rf, rz⟩ := CB.res6 CB2.out hu4 (fun q hq => hq) (b := w.heap.size + 1) (t := 26) (by simp)
    go_wp2_with fail
    refine bodyPost_ret (v := vChan v4 D.base D.expected) (by simp [*, results, Tryd.results21, go_sem]) rfl ?_
    rw [hE.out]
    exact SPost.mk (b0 := 0) (CB.fin2 CB2.out (s := ⟨w.heap.size + 1, 26, zC⟩) (by simp) ho4 hf4 hm4 hu4 (((((((Upd.refl _ _).set_in (by simp) _).set_in (by simp) _).set_in (by simp) _).set_in (by simp) _).set_in (by simp) _).set_in (by simp) _))
  · by_cases h0 : c.net = []
    · have hE : Hid (stepC c 2 at_ = c) := by unfold Hid; rw [stepC_yes HB1.out]; unfold moveC; rw [if_neg (by decide), if_pos (by decide)]; rw [if_pos h0]
      have hS := fun W ho hf hB => spec_net_0 v1 c 2 at_ w.heap.size W h0 ho hf hB
      clear h0
      go_wp2_with fail
      refine Calls.mono (hS _ CB2.out.ow CB2.out.fr CB2.out.up.size) ?_
      rintro e w4 ⟨v4, rfl, ho4, hf4, hm4, hu4⟩
      obtain ⟨r0, r1, r2, r3, r4, r5, rf, rz⟩ := CB.res6 CB2.out hu4 (fun q hq => hq) (b := w.heap.size + 1) (t := 26) (by simp)
      go_wp2_with fail
      refine bodyPost_ret (v := vChan v4 c.base c.expected) (by simp [*, results, Tryd.results21, go_sem]) rfl ?_
      rw [hE.out]
      exact SPost.mk (b0 := 0) (CB.fin2 CB2.out (s := ⟨w.heap.size + 1, 26, zC⟩) (by simp) ho4 hf4 hm4 hu4 (((((((Upd.refl _ _).set_in (by simp) _).set_in (by simp) _).set_in (by simp) _).set_in (by simp) _).set_in (by simp) _).set_in (by simp) _))
    · have hE : Hid (stepC c 2 at_ = netC c 2 (selK at_ c.net.length)) := by unfold Hid; rw [stepC_yes HB1.out]; unfold moveC; rw [if_neg (by decide), if_pos (by decide)]; rw [if_neg h0]
      have hS := fun W ho hf hB => spec_net_2 (m := 0) v1 c at_ w.heap.size W OK.out h0 HAT.out ho hf hB
      generalize netC c 2 (selK at_ c.net.length) = D at *
      clear h0
      go_wp2_with fail
      refine Calls.mono (hS _ CB2.out.ow CB2.out.fr CB2.out.up.size) ?_
      rintro e w4 ⟨v4, rfl, ho4, hf4, hm4, hu4⟩
      obtain ⟨r0, r1, r2, r3, r4, r5, rf, rz⟩ := CB.res6 CB2.out hu4 (fun q hq => hq) (b := w.heap.size + 1) (t := 26) (by simp)
      go_wp2_with fail
      refine bodyPost_ret (v := vChan v4 D.base D.expected) (by simp [*, results, Tryd.results21, go_sem]) rfl ?_
      rw [hE.out]
      exact SPost.mk (b0 := 0) (CB.fin2 CB2.out (s := ⟨w.heap.size + 1, 26, zC⟩) (by simp) ho4 hf4 hm4 hu4 (((((((Upd.refl _ _).set_in (by simp) _).set_in (by simp) _).set_in (by simp) _).set_in (by simp) _).set_in (by simp) _).set_in (by simp) _))
  · by_cases h0 : c.net = []
    · have hE : Hid (stepC c 3 at_ = c) := by unfold Hid; rw [stepC_yes HB1.out]; unfold moveC; rw [if_neg (by decide), if_pos (by decide)]; rw [if_pos h0]
      have hS := fun W ho hf hB => spec_net_0 v1 c 3 at_ w.heap.size W h0 ho hf hB
      clear h0
      go_wp2_with fail
      refine Calls.mono (hS _ CB2.out.ow CB2.out.fr CB2.out.up.size) ?_
      rintro e w4 ⟨v4, rfl, ho4, hf4, hm4, hu4⟩
      obtain ⟨r0, r1, r2, r3, r4, r5, rf, rz⟩ := CB.res6 CB2.out hu4 (fun q hq => hq) (b := w.heap.size + 1) (t := 26) (by simp)
      go_wp2_with fail
      refine bodyPost_ret (v := vChan v4 c.base c.expected) (by simp [*, results, Tryd.results21, go_sem]) rfl ?_
      rw [hE.out]
      exact SPost.mk (b0 := 0) (CB.fin2 CB2.out (s := ⟨w.heap.size + 1, 26, zC⟩) (by simp) ho4 hf4 hm4 hu4 (((((((Upd.refl _ _).set_in (by simp) _).set_in (by simp) _).set_in (by simp) _).set_in (by simp) _).set_in (by simp) _).set_in (by simp) _))
    · have hE : Hid (stepC c 3 at_ = netC c 3 (selK at_ c.net.length)) := by unfold Hid; rw [stepC_yes HB1.out]; unfold moveC; rw [if_neg (by decide), if_pos (by decide)]; rw [if_neg h0]
      have hS := fun W ho hf hB => spec_net_3 (m := 0) v1 c at_ w.heap.size W OK.out h0 HAT.out ho hf hB
      generalize netC c 3 (selK at_ c.net.length) = D at *
      clear h0
      go_wp2_with fail
      refine Calls.mono (hS _ CB2.out.ow CB2.out.fr CB2.out.up.size) ?_
      rintro e w4 ⟨v4, rfl, ho4, hf4, hm4, hu4⟩
      obtain ⟨r0, r1, r2, r3, r4, r5, rf, rz⟩ := CB.res6 CB2.out hu4 (fun q hq => hq) (b := w.heap.size + 1) (t := 26) (by simp)
      go_wp2_with fail
      refine bodyPost_ret (v := vChan v4 D.base D.expected) (by simp [*, results, Tryd.results21, go_sem]) rfl ?_
      rw [hE.out]
      exact SPost.mk (b0 := 0) (CB.fin2 CB2.out (s := ⟨w.heap.size + 1, 26, zC⟩) (by simp) ho4 hf4 hm4 hu4 (((((((Upd.refl _ _).set_in (by simp) _).set_in (by simp) _).set_in (by simp) _).set_in (by simp) _).set_in (by simp) _).set_in (by simp) _))
  · by_cases h0 : c.net = []
    · have hE : Hid (stepC c 4 at_ = c) := by unfold Hid; rw [stepC_yes HB1.out]; unfold moveC; rw [if_neg (by decide), if_pos (by decide)]; rw [if_pos h0]
      have hS := fun W ho hf hB => spec_net_0 v1 c 4 at_ w.heap.size W h0 ho hf hB
      clear h0
      go_wp2_with fail
      refine Calls.mono (hS _ CB2.out.ow CB2.out.fr CB2.out.up.size) ?_
      rintro e w4 ⟨v4, rfl, ho4, hf4, hm4, hu4⟩
      obtain ⟨r0, r1, r2, r3, r4, r5, rf, rz⟩ := CB.res6 CB2.out hu4 (fun q hq => hq) (b := w.heap.size + 1) (t := 26) (by simp)
      go_wp2_with fail
      refine bodyPost_ret (v := vChan v4 c.base c.expected) (by simp [*, results, Tryd.results21, go_sem]) rfl ?_
      rw [hE.out]
      exact SPost.mk (b0 := 0) (CB.fin2 CB2.out (s := ⟨w.heap.size + 1, 26, zC⟩) (by simp) ho4 hf4 hm4 hu4 (((((((Upd.refl _ _).set_in (by simp) _).set_in (by simp) _).set_in (by simp) _).set_in (by simp) _).set_in (by simp) _).set_in (by simp) _))
    · have hE : Hid (stepC c 4 at_ = netC c 4 (selK at_ c.net.length)) := by unfold Hid; rw [stepC_yes HB1.out]; unfold moveC; rw [if_neg (by decide), if_pos (by decide)]; rw [if_neg h0]
      have hS := fun W ho hf hB => spec_net_4 (m := 0) v1 c at_ w.heap.size W OK.out h0 HAT.out ho hf hB
      generalize netC c 4 (selK at_ c.net.length) = D at *
      clear h0
      go_wp2_with fail
      refine Calls.mono (hS _ CB2.out.ow CB2.out.fr CB2.out.up.size) ?_
      rintro e w4 ⟨v4, rfl, ho4, hf4, hm4, hu4⟩
      obtain ⟨r0, r1, r2, r3, r4, r5, rf, rz⟩ := CB.res6 CB2.out hu4 (fun q hq => hq) (b := w.heap.size + 1) (t := 26) (by simp)
      go_wp2_with fail
      refine bodyPost_ret (v := vChan v4 D.base D.expected) (by simp [*, results, Tryd.results21, go_sem]) rfl ?_
      rw [hE.out]
      exact SPost.mk (b0 := 0) (CB.fin2 CB2.out (s := ⟨w.heap.size + 1, 26, zC⟩) (by simp) ho4 hf4 hm4 hu4 (((((((Upd.refl _ _).set_in (by simp) _).set_in (by simp) _).set_in (by simp) _).set_in (by simp) _).set_in (by simp) _).set_in (by simp) _))
  · by_cases h0 : c.net = []
    · have hE : Hid (stepC c 5 at_ = c) := by unfold Hid; rw [stepC_yes HB1.out]; unfold moveC; rw [if_neg (by decide), if_pos (by decide)]; rw [if_pos h0]
      have hS := fun W ho hf hB => spec_net_0 v1 c 5 at_ w.heap.size W h0 ho hf hB
      clear h0
      go_wp2_with fail
      refine Calls.mono (hS _ CB2.out.ow CB2.out.fr CB2.out.up.size) ?_
      rintro e w4 ⟨v4, rfl, ho4, hf4, hm4, hu4⟩
      obtain ⟨r0, r1, r2, r3, r4, r5, rf, rz⟩ := CB.res6 CB2.out hu4 (fun q hq => hq) (b := w.heap.size + 1) (t := 26) (by simp)
      go_wp2_with fail
      refine bodyPost_ret (v := vChan v4 c.base c.expected) (by simp [*, results, Tryd.results21, go_sem]) rfl ?_
      rw [hE.out]
      exact SPost.mk (b0 := 0) (CB.fin2 CB2.out (s := ⟨w.heap.size + 1, 26, zC⟩) (by simp) ho4 hf4 hm4 hu4 (((((((Upd.refl _ _).set_in (by simp) _).set_in (by simp) _).set_in (by simp) _).set_in (by simp) _).set_in (by simp) _).set_in (by simp) _))
    · have hE : Hid (stepC c 5 at_ = netC c 5 (selK at_ c.net.length)) := by unfold Hid; rw [stepC_yes HB1.out]; unfold moveC; rw [if_neg (by decide), if_pos (by decide)]; rw [if_neg h0]
      have hS := fun W ho hf hB => spec_net_5 (m := 0) v1 c at_ w.heap.size W OK.out h0 HAT.out ho hf hB
      generalize netC c 5 (selK at_ c.net.length) = D at *
      clear h0
      go_wp2_with fail
      refine Calls.mono (hS _ CB2.out.ow CB2.out.fr CB2.out.up.size) ?_
      rintro e w4 ⟨v4, rfl, ho4, hf4, hm4, hu4⟩
      obtain ⟨r0, r1, r2, r3, r4, r5, rf, rz⟩ := CB.res6 CB2.out hu4 (fun q hq => hq) (b := w.heap.size + 1) (t := 26) (by simp)
      go_wp2_with fail
      refine bodyPost_ret (v := vChan v4 D.base D.expected) (by simp [*, results, Tryd.results21, go_sem]) rfl ?_
      rw [hE.out]
      exact SPost.mk (b0 := 0) (CB.fin2 CB2.out (s := ⟨w.heap.size + 1, 26, zC⟩) (by simp) ho4 hf4 hm4 hu4 (((((((Upd.refl _ _).set_in (by simp) _).set_in (by simp) _).set_in (by simp) _).set_in (by simp) _).set_in (by simp) _).set_in (by simp) _))
  · by_cases h0 : c.acks = []
    · have hE : Hid (stepC c 6 at_ = c) := by unfold Hid; rw [stepC_yes HB1.out]; unfold moveC; rw [if_neg (by decide), if_neg (by decide), if_pos (by decide)]; rw [if_pos h0]
      have hS := fun W ho hf hB => spec_ack_0 v1 c 6 at_ w.heap.size W h0 ho hf hB
      clear h0
      go_wp2_with fail
      refine Calls.mono (hS _ CB2.out.ow CB2.out.fr CB2.out.up.size) ?_
      rintro e w4 ⟨v4, rfl, ho4, hf4, hm4, hu4⟩
      obtain ⟨r0, r1, r2, r3, r4, r5, rf, rz⟩ := CB.res6 CB2.out hu4 (fun q hq => hq) (b := w.heap.size + 1) (t := 26) (by simp)
      go_wp2_with fail
      refine bodyPost_ret (v := vChan v4 c.base c.expected) (by simp [*, results, Tryd.results21, go_sem]) rfl ?_
      rw [hE.out]
      exact SPost.mk (b0 := 0) (CB.fin2 CB2.out (s := ⟨w.heap.size + 1, 26, zC⟩) (by simp) ho4 hf4 hm4 hu4 (((((((Upd.refl _ _).set_in (by simp) _).set_in (by simp) _).set_in (by simp) _).set_in (by simp) _).set_in (by simp) _).set_in (by simp) _))
    · have hE : Hid (stepC c 6 at_ = ackC c 6 (selK at_ c.acks.length)) := by unfold Hid; rw [stepC_yes HB1.out]; unfold moveC; rw [if_neg (by decide), if_neg (by decide), if_pos (by decide)]; rw [if_neg h0]
      have hS := fun W ho hf hB => spec_ack_6 (m := 0) v1 c at_ w.heap.size W OK.out h0 HAT.out ho hf hB
      generalize ackC c 6 (selK at_ c.acks.length) = D at *
      clear h0
      go_wp2_with fail
      refine Calls.mono (hS _ CB2.out.ow CB2.out.fr CB2.out.up.size) ?_
      rintro e w4 ⟨v4, rfl, ho4, hf4, hm4, hu4⟩
      obtain ⟨r0, r1, r2, r3, r4, r5, rf, rz⟩ := CB.res6 CB2.out hu4 (fun q hq => hq) (b := w.heap.size + 1) (t := 26) (by simp)
      go_wp2_with fail
      refine bodyPost_ret (v := vChan v4 D.base D.expected) (by simp [*, results, Tryd.results21, go_sem]) rfl ?_
      rw [hE.out]
      exact SPost.mk (b0 := 0) (CB.fin2 CB2.out (s := ⟨w.heap.size + 1, 26, zC⟩) (by simp) ho4 hf4 hm4 hu4 (((((((Upd.refl _ _).set_in (by simp) _).set_in (by simp) _).set_in (by simp) _).set_in (by simp) _).set_in (by simp) _).set_in (by simp) _))
  · by_cases h0 : c.acks = []
    · have hE : Hid (stepC c 7 at_ = c) := by unfold Hid; rw [stepC_yes HB1.out]; unfold moveC; rw [if_neg (by decide), if_neg (by decide), if_pos (by decide)]; rw [if_pos h0]
      have hS := fun W ho hf hB => spec_ack_0 v1 c 7 at_ w.heap.size W h0 ho hf hB
      clear h0
      go_wp2_with fail
      refine Calls.mono (hS _ CB2.out.ow CB2.out.fr CB2.out.up.size) ?_
      rintro e w4 ⟨v4, rfl, ho4, hf4, hm4, hu4⟩
      obtain ⟨r0, r1, r2, r3, r4, r5, rf, rz⟩ := CB.res6 CB2.out hu4 (fun q hq => hq) (b := w.heap.size + 1) (t := 26) (by simp)
      go_wp2_with fail
      refine bodyPost_ret (v := vChan v4 c.base c.expected) (by simp [*, results, Tryd.results21, go_sem]) rfl ?_
      rw [hE.out]
      exact SPost.mk (b0 := 0) (CB.fin2 CB2.out (s := ⟨w.heap.size + 1, 26, zC⟩) (by simp) ho4 hf4 hm4 hu4 (((((((Upd.refl _ _).set_in (by simp) _).set_in (by simp) _).set_in (by simp) _).set_in (by simp) _).set_in (by simp) _).set_in (by simp) _))
    · have hE : Hid (stepC c 7 at_ = ackC c 7 (selK at_ c.acks.length)) := by unfold Hid; rw [stepC_yes HB1.out]; unfold moveC; rw [if_neg (by decide), if_neg (by decide), if_pos (by decide)]; rw [if_neg h0]
      have hS := fun W ho hf hB => spec_ack_7 (m := 0) v1 c at_ w.heap.size W OK.out h0 HAT.out ho hf hB
      generalize ackC c 7 (selK at_ c.acks.length) = D at *
      clear h0
      go_wp2_with fail
      refine Calls.mono (hS _ CB2.out.ow CB2.out.fr CB2.out.up.size) ?_
      rintro e w4 ⟨v4, rfl, ho4, hf4, hm4, hu4⟩
      obtain ⟨r0, r1, r2, r3, r4, r5, rf, rz⟩ := CB.res6 CB2.out hu4 (fun q hq => hq) (b := w.heap.size + 1) (t := 26) (by simp)
      go_wp2_with fail
      refine bodyPost_ret (v := vChan v4 D.base D.expected) (by simp [*, results, Tryd.results21, go_sem]) rfl ?_
      rw [hE.out]
      exact SPost.mk (b0 := 0) (CB.fin2 CB2.out (s := ⟨w.heap.size + 1, 26, zC⟩) (by simp) ho4 hf4 hm4 hu4 (((((((Upd.refl _ _).set_in (by simp) _).set_in (by simp) _).set_in (by simp) _).set_in (by simp) _).set_in (by simp) _).set_in (by simp) _))
end Go.Proofs.YtgpmmmfnbphgdaaDoor
