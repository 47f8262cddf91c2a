/- Channels: how they lie in memory; the laws' helpers on them. -/
import Derived.Test.YtgpmmmfnbphgdaaDoorObj
import Derived.Test.YtgpmmmfnbphgdaaDoorData
import Derived.Test.YtgpmmmfnbphgdaaDoorSz
import Derived.Test.YtgpmmmfnbphgdaaDoorTo
import Derived.Test.YtgpmmmfnbphgdaaDoorEq
import Derived.Test.YtgpmmmfnbphgdaaDoorMark2
import Derived.Test.YtgpmmmfnbphgdaaDoorOpen
namespace Go.Proofs.YtgpmmmfnbphgdaaDoor
open Go.RowKit
set_option linter.unusedVariables false
set_option linter.unusedSimpArgs false
set_option maxHeartbeats 1600000
set_option maxRecDepth 100000
structure CV where
  q : Sv
  i : Sv
  n : Sv
  a : Sv
abbrev vChan (v : CV) (base expected : Int) : Value := .agg #[.slice v.q.A v.q.n v.q.c, .int .i64 base, .int .i64 expected, .slice v.i.A v.i.n v.i.c, .slice v.n.A v.n.n v.n.c, .slice v.a.A v.a.n v.a.c]
def cChan (v : CV) (base expected : Int) : List Value := [.slice v.q.A v.q.n v.q.c, .int .i64 base, .int .i64 expected, .slice v.i.A v.i.n v.i.c, .slice v.n.A v.n.n v.n.c, .slice v.a.A v.a.n v.a.c]
structure RdC (w : World) (v : CV) (c : Chan) : Prop where
  q : RowS w v.q.A v.q.n c.queue
  i : RowS w v.i.A v.i.n c.inbox
  n : RowK w v.n.A v.n.n c.net
  a : RowK w v.a.A v.a.n c.acks
structure OwC (w : World) (v : CV) (c : Chan) : Prop where
  q : Own w 0 9 1 v.q.A v.q.n v.q.c (c.queue.map strCells)
  i : Own w 0 9 1 v.i.A v.i.n v.i.c (c.inbox.map strCells)
  n : Own w 0 144 4 v.n.A v.n.n v.n.c (c.net.map Packet.cells)
  a : Own w 0 144 4 v.a.A v.a.n v.a.c (c.acks.map Packet.cells)
def fpC (v : CV) : List Nat := obl v.q.A ++ (obl v.i.A ++ (obl v.n.A ++ obl v.a.A))
theorem OwC.rd {w : World} {v : CV} {c : Chan} (h : OwC w v c) : RdC w v c := ⟨h.q.row, h.i.row, h.n.row, h.a.row⟩
theorem RdC.below {w w' : World} {v : CV} {c : Chan} (h : RdC w v c) (hb : Below w.heap.size w w') : RdC w' v c := ⟨h.q.below hb, h.i.below hb, h.n.below hb, h.a.below hb⟩
theorem OwC.lt {w : World} {v : CV} {c : Chan} (h : OwC w v c) : ∀ k ∈ fpC v, k < w.heap.size := by
  intro k hk
  simp only [fpC, List.mem_append] at hk
  rcases hk with hk | hk | hk | hk
  · exact (h.q.lt k (mem_obl.1 hk)).2
  · exact (h.i.lt k (mem_obl.1 hk)).2
  · exact (h.n.lt k (mem_obl.1 hk)).2
  · exact (h.a.lt k (mem_obl.1 hk)).2
theorem OwC.keep {w w' : World} {v : CV} {c : Chan} (h : OwC w v c) (hw : ∀ k ∈ fpC v, w'.heap[k]? = w.heap[k]?) : OwC w' v c := by
  simp only [fpC, List.mem_append] at hw
  exact ⟨h.q.keep fun g hg => hw g (.inl (mem_obl.2 hg)), h.i.keep fun g hg => hw g (.inr (.inl (mem_obl.2 hg))), h.n.keep fun g hg => hw g (.inr (.inr (.inl (mem_obl.2 hg)))), h.a.keep fun g hg => hw g (.inr (.inr (.inr (mem_obl.2 hg))))⟩
theorem OwC.below {w w' : World} {v : CV} {c : Chan} (h : OwC w v c) (hb : Below w.heap.size w w') : OwC w' v c := h.keep fun k hk => hb.block k (h.lt k hk)
theorem OwC.upd {w w' : World} {v : CV} {c : Chan} {fs : List Nat} (h : OwC w v c) (hu : Upd fs w w') (hd : ∀ k ∈ fpC v, k ∉ fs) : OwC w' v c := h.keep fun k hk => hu.block k (h.lt k hk) (hd k hk)
def okC (c : Chan) : Prop := (∀ s ∈ c.queue, s.size ≤ maxLen) ∧ (∀ s ∈ c.inbox, s.size ≤ maxLen) ∧ (∀ p ∈ c.net, p.ok) ∧ (∀ p ∈ c.acks, p.ok) ∧ wfI c.base ∧ wfI c.expected
def lenC (v : CV) : Prop := v.q.n ≤ maxLen ∧ v.i.n ≤ maxLen ∧ v.n.n ≤ maxLen ∧ v.a.n ≤ maxLen
def bulkC (c : Chan) : Nat := (c.queue.length + sumBulk ByteArray.size c.queue) + ((c.inbox.length + sumBulk ByteArray.size c.inbox) + ((c.net.length + sumBulk Packet.bulk c.net) + (c.acks.length + sumBulk Packet.bulk c.acks)))

def fewC (c : Chan) : Prop := c.queue.length ≤ 1048576 ∧ c.inbox.length ≤ 1048576 ∧ c.net.length ≤ 1048576 ∧ c.acks.length ≤ 1048576
theorem fewC_of {c : Chan} (h : bulkC c ≤ 1048576) : fewC c := by unfold bulkC at h; unfold fewC; omega
theorem szChannel_k (v : CV) (c : Chan) (left : Int) (w : World) (h1 : 0 ≤ left) (h2 : left ≤ 1048576) (hl : lenC v) (hok : okC c) (hr : RdC w v c) :
    Calls Tryd.prog 20 #[vChan v c.base c.expected, .int .i64 left] w fun e w' => SzPost left (bulkC c) e ∧ Below w.heap.size w w' := by
  obtain ⟨l0, l1, l2, l3⟩ := hl
  obtain ⟨o0, o1, o2, o3, _, _⟩ := hok
  have e0 := hr.q.len; have e1 := hr.i.len; have e2 := hr.n.len; have e3 := hr.a.len
  go_enter Tryd.func20, Tryd.ntmps20
  go_wp2_with fail
  refine (szStringS_c v.q.A v.q.n v.q.c c.queue left _ h1 h2 l0 (hr.q.below (bAlloc (Below.refl _ _) _)) o0).mono ?_
  rintro e w1 ⟨⟨r0, rfl, hp⟩, hb1⟩
  have H := bTrans (bAlloc (Below.refl _ _) _) hb1
  have hz : w.heap.size + 1 ≤ w1.heap.size := bsz1 hb1
  have hk1 := bBox hb1 w.heap.size (by simp)
  rcases hp with rfl | ⟨p0, s0⟩
  · go_wp2_with fail
    go_ret
    exact ⟨⟨_, rfl, .inl rfl⟩, H⟩
  have q0 : r0 ≤ 1048576 := by have := s0.out; omega
  have n0 : ¬ r0 < 0 := by omega
  go_wp2_with fail
  refine (szStringS_c v.i.A v.i.n v.i.c c.inbox r0 _ p0 q0 l1 (hr.i.below H) o1).mono ?_
  rintro e w2 ⟨⟨r1, rfl, hp⟩, hb2⟩
  have H := bTrans H hb2
  have hk2 := bBox hb2 w.heap.size (by have := H.size; have := hz; have := hb1.size; omega)
  rcases hp with rfl | ⟨p1, s1⟩
  · go_wp2_with fail
    go_ret
    exact ⟨⟨_, rfl, .inl rfl⟩, H⟩
  have q1 : r1 ≤ 1048576 := by have := s1.out; omega
  have n1 : ¬ r1 < 0 := by omega
  go_wp2_with fail
  refine (szPacketS_c v.n.A v.n.n v.n.c c.net r1 _ p1 q1 l2 (hr.n.below H) (okPacket o2)).mono ?_
  rintro e w3 ⟨⟨r2, rfl, hp⟩, hb3⟩
  have H := bTrans H hb3
  have hk3 := bBox hb3 w.heap.size (by have := H.size; have := hz; have := hb1.size; have := hb2.size; omega)
  rcases hp with rfl | ⟨p2, s2⟩
  · go_wp2_with fail
    go_ret
    exact ⟨⟨_, rfl, .inl rfl⟩, H⟩
  have q2 : r2 ≤ 1048576 := by have := s2.out; omega
  have n2 : ¬ r2 < 0 := by omega
  go_wp2_with fail
  refine (szPacketS_c v.a.A v.a.n v.a.c c.acks r2 _ p2 q2 l3 (hr.a.below H) (okPacket o3)).mono ?_
  rintro e w4 ⟨⟨r3, rfl, hp⟩, hb4⟩
  have H := bTrans H hb4
  have hk4 := bBox hb4 w.heap.size (by have := H.size; have := hz; have := hb1.size; have := hb2.size; have := hb3.size; omega)
  rcases hp with rfl | ⟨p3, s3⟩
  · go_wp2_with fail
    go_ret
    exact ⟨⟨_, rfl, .inl rfl⟩, H⟩
  have q3 : r3 ≤ 1048576 := by have := s3.out; omega
  have n3 : ¬ r3 < 0 := by omega
  go_wp2_with fail
  go_ret
  refine ⟨⟨_, rfl, .inr ⟨p3, ?_⟩⟩, H⟩
  have := s0.out; have := s1.out; have := s2.out; have := s3.out; have := e0.out; have := e1.out; have := e2.out; have := e3.out
  unfold bulkC Hid
  omega
/-- four new slices, laid one behind the other, boxes written between -/
theorem chan_end {w w1 w2 w3 w4 X1 X2 X3 X4 : World} {B0 : Nat} {A0 A1 A2 A3 : Option Addr} {n0 n1 n2 n3 c0 c1 c2 c3 : Nat} {c : Chan} (H : Below w.heap.size w w1) (hB : w.heap.size + 3 ≤ B0)
    (ho0 : Own w1 B0 9 1 A0 n0 c0 (c.queue.map strCells)) (u1 : Upd [w.heap.size + 1, w.heap.size + 1 + 1] w1 X1) (hb2 : Below X1.heap.size X1 w2)
    (ho1 : Own w2 X1.heap.size 9 1 A1 n1 c1 (c.inbox.map strCells)) (u2 : Upd [w.heap.size + 1, w.heap.size + 1 + 1] w2 X2) (hb3 : Below X2.heap.size X2 w3)
    (ho2 : Own w3 X2.heap.size 144 4 A2 n2 c2 (c.net.map Packet.cells)) (u3 : Upd [w.heap.size + 1, w.heap.size + 1 + 1] w3 X3) (hb4 : Below X3.heap.size X3 w4)
    (ho3 : Own w4 X3.heap.size 144 4 A3 n3 c3 (c.acks.map Packet.cells)) (u4 : Upd [w.heap.size + 1, w.heap.size + 1 + 1] w4 X4) (hz : w.heap.size + 3 ≤ w1.heap.size) :
    OwC X4 ⟨⟨A0, n0, c0⟩, ⟨A1, n1, c1⟩, ⟨A2, n2, c2⟩, ⟨A3, n3, c3⟩⟩ c ∧ Fresh w.heap.size X4 (fpC ⟨⟨A0, n0, c0⟩, ⟨A1, n1, c1⟩, ⟨A2, n2, c2⟩, ⟨A3, n3, c3⟩⟩) ∧ Below w.heap.size w X4 := by
  have U4 := u4
  have U3 := (u3.then_below hb4).trans U4
  have U2 := (u2.then_below hb3).trans U3
  have U1 := (u1.then_below hb2).trans U2
  have a0 : ∀ k ∈ [w.heap.size + 1, w.heap.size + 1 + 1], k < w.heap.size + 3 := by intro k hk; simp at hk; omega
  have s1 := U1.size; have s2 := U2.size; have s3 := U3.size; have s4 := U4.size
  have z1 := u1.size; have z2 := u2.size; have z3 := u3.size
  have y2 := hb2.size; have y3 := hb3.size; have y4 := hb4.size
  refine ⟨⟨(ho0.upd U1 (Upd.apart ho0 fun k hk => by have := a0 k hk; omega)).zero, (ho1.upd U2 (Upd.apart ho1 fun k hk => by have := a0 k hk; omega)).zero, (ho2.upd U3 (Upd.apart ho2 fun k hk => by have := a0 k hk; omega)).zero, (ho3.upd U4 (Upd.apart ho3 fun k hk => by have := a0 k hk; omega)).zero⟩, ?_, bUpd H U1 (fun k hk => by simp at hk; omega)⟩
  exact ((Fresh.obl_ ho0).rebase (by omega)).then_ ((Fresh.obl_ ho1).then_ ((Fresh.obl_ ho2).then_ ((Fresh.obl_ ho3).grow s4) (by omega) z3 s3) (by omega) z2 s2) (by omega) z1 s1
theorem toChannel_k (v : CV) (c : Chan) (w : World) (hm : fewC c) (hr : RdC w v c) :
    Calls Tryd.prog 22 #[vChan v c.base c.expected] w fun e w' => ∃ v', e = .returned (vChan v' c.base c.expected) ∧ OwC w' v' c ∧ Fresh w.heap.size w' (fpC v') ∧ Below w.heap.size w w' := by
  have hq := hr.q.len; have hi := hr.i.len; have hn := hr.n.len; have ha := hr.a.len
  have m0 : v.q.n ≤ 1048576 := by have := hq.out; unfold fewC at hm; omega
  have m1 : v.i.n ≤ 1048576 := by have := hi.out; unfold fewC at hm; omega
  have m2 : v.n.n ≤ 1048576 := by have := hn.out; unfold fewC at hm; omega
  have m3 : v.a.n ≤ 1048576 := by have := ha.out; unfold fewC at hm; omega
  clear hm
  go_enter Tryd.func22, Tryd.ntmps22
  go_wp2_with fail
  refine (toStringS_c v.q.A v.q.n v.q.c c.queue _ m0 (hr.q.below (by repeat (first | exact Below.refl _ _ | refine bAlloc ?_ _)))).mono ?_
  rintro e w1 ⟨A0, c0, rfl, ho0, hb1⟩
  have H := bTrans (by repeat (first | exact Below.refl _ _ | refine bAlloc ?_ _) : Below w.heap.size w _) hb1
  have H1 := H
  have hz1 : w.heap.size + 3 ≤ w1.heap.size := by have := hb1.size; simp at this; omega
  have khb10 := bBox hb1 (w.heap.size) (by first | (simp; done) | (simp; omega))
  have fhb10 := bBoxF hb1 (w.heap.size) (by first | (simp; done) | (simp; omega))
  have khb11 := bBox hb1 (w.heap.size + 1) (by first | (simp; done) | (simp; omega))
  have fhb11 := bBoxF hb1 (w.heap.size + 1) (by first | (simp; done) | (simp; omega))
  have khb12 := bBox hb1 (w.heap.size + 1 + 1) (by first | (simp; done) | (simp; omega))
  have fhb12 := bBoxF hb1 (w.heap.size + 1 + 1) (by first | (simp; done) | (simp; omega))
  go_wp2_with fail
  refine (toStringS_c v.i.A v.i.n v.i.c c.inbox _ m1 (hr.i.below (by repeat (first | exact H | refine bSet ?_ (by simp; omega) _)))).mono ?_
  rintro e w2 ⟨A1, c1, rfl, ho1, hb2⟩
  have H := bTrans (by repeat (first | exact H | refine bSet ?_ (by simp; omega) _) : Below w.heap.size w _) hb2
  have hz2 : w.heap.size + 3 ≤ w2.heap.size := by have := hb2.size; simp at this; omega
  have khb20 := bBox hb2 (w.heap.size) (by first | (simp; done) | (simp; omega))
  have fhb20 := bBoxF hb2 (w.heap.size) (by first | (simp; done) | (simp; omega))
  have khb21 := bBox hb2 (w.heap.size + 1) (by first | (simp; done) | (simp; omega))
  have fhb21 := bBoxF hb2 (w.heap.size + 1) (by first | (simp; done) | (simp; omega))
  have khb22 := bBox hb2 (w.heap.size + 1 + 1) (by first | (simp; done) | (simp; omega))
  have fhb22 := bBoxF hb2 (w.heap.size + 1 + 1) (by first | (simp; done) | (simp; omega))
  go_wp2_with fail
  refine (toPacketS_c v.n.A v.n.n v.n.c c.net _ m2 (hr.n.below (by repeat (first | exact H | refine bSet ?_ (by simp; omega) _)))).mono ?_
  rintro e w3 ⟨A2, c2, rfl, ho2, hb3⟩
  have H := bTrans (by repeat (first | exact H | refine bSet ?_ (by simp; omega) _) : Below w.heap.size w _) hb3
  have hz3 : w.heap.size + 3 ≤ w3.heap.size := by have := hb3.size; simp at this; omega
  have khb30 := bBox hb3 (w.heap.size) (by first | (simp; done) | (simp; omega))
  have fhb30 := bBoxF hb3 (w.heap.size) (by first | (simp; done) | (simp; omega))
  have khb31 := bBox hb3 (w.heap.size + 1) (by first | (simp; done) | (simp; omega))
  have fhb31 := bBoxF hb3 (w.heap.size + 1) (by first | (simp; done) | (simp; omega))
  have khb32 := bBox hb3 (w.heap.size + 1 + 1) (by first | (simp; done) | (simp; omega))
  have fhb32 := bBoxF hb3 (w.heap.size + 1 + 1) (by first | (simp; done) | (simp; omega))
  go_wp2_with fail
  refine (toPacketS_c v.a.A v.a.n v.a.c c.acks _ m3 (hr.a.below (by repeat (first | exact H | refine bSet ?_ (by simp; omega) _)))).mono ?_
  rintro e w4 ⟨A3, c3, rfl, ho3, hb4⟩
  have H := bTrans (by repeat (first | exact H | refine bSet ?_ (by simp; omega) _) : Below w.heap.size w _) hb4
  have hz4 : w.heap.size + 3 ≤ w4.heap.size := by have := hb4.size; simp at this; omega
  have khb40 := bBox hb4 (w.heap.size) (by first | (simp; done) | (simp; omega))
  have fhb40 := bBoxF hb4 (w.heap.size) (by first | (simp; done) | (simp; omega))
  have khb41 := bBox hb4 (w.heap.size + 1) (by first | (simp; done) | (simp; omega))
  have fhb41 := bBoxF hb4 (w.heap.size + 1) (by first | (simp; done) | (simp; omega))
  have khb42 := bBox hb4 (w.heap.size + 1 + 1) (by first | (simp; done) | (simp; omega))
  have fhb42 := bBoxF hb4 (w.heap.size + 1 + 1) (by first | (simp; done) | (simp; omega))
  go_wp2_with fail
  refine bodyPost_ret (v := vChan ⟨⟨A0, v.q.n, c0⟩, ⟨A1, v.i.n, c1⟩, ⟨A2, v.n.n, c2⟩, ⟨A3, v.a.n, c3⟩⟩ c.base c.expected) (by simp [*, results, Tryd.results22, go_sem]) rfl ⟨_, rfl, ?_⟩
  exact chan_end H1 (by simp) ho0 (by repeat (first | with_reducible exact Upd.refl _ _ | (with_reducible refine Upd.set_in ?_ ?_ _); rotate_left; simp)) hb2 ho1 (by repeat (first | with_reducible exact Upd.refl _ _ | (with_reducible refine Upd.set_in ?_ ?_ _); rotate_left; simp)) hb3 ho2 (by repeat (first | with_reducible exact Upd.refl _ _ | (with_reducible refine Upd.set_in ?_ ?_ _); rotate_left; simp)) hb4 ho3 (by repeat (first | with_reducible exact Upd.refl _ _ | (with_reducible refine Upd.set_in ?_ ?_ _); rotate_left; simp)) hz1
theorem eqChannel_k (v v2 : CV) (c : Chan) (w : World) (hm : fewC c) (hr : RdC w v c) (hr2 : RdC w v2 c) :
    Calls Tryd.prog 23 #[vChan v c.base c.expected, vChan v2 c.base c.expected] w fun e w' => e = rBool true ∧ Below w.heap.size w w' := by
  have q0 := hr.q.len; have q'0 := hr2.q.len
  have m0 : v.q.n ≤ 1048576 := by have := q0.out; unfold fewC at hm; omega
  have H0 : Hid (v2.q.n = v.q.n) := q'0.out.symm.trans q0.out
  have q1 := hr.i.len; have q'1 := hr2.i.len
  have m1 : v.i.n ≤ 1048576 := by have := q1.out; unfold fewC at hm; omega
  have H1 : Hid (v2.i.n = v.i.n) := q'1.out.symm.trans q1.out
  have q2 := hr.n.len; have q'2 := hr2.n.len
  have m2 : v.n.n ≤ 1048576 := by have := q2.out; unfold fewC at hm; omega
  have H2 : Hid (v2.n.n = v.n.n) := q'2.out.symm.trans q2.out
  have q3 := hr.a.len; have q'3 := hr2.a.len
  have m3 : v.a.n ≤ 1048576 := by have := q3.out; unfold fewC at hm; omega
  have H3 : Hid (v2.a.n = v.a.n) := q'3.out.symm.trans q3.out
  clear hm
  obtain ⟨⟨Aq, nq, cq⟩, ⟨Ai, ni, ci⟩, ⟨An, nn, cn⟩, ⟨Aa, na, ca⟩⟩ := v
  obtain ⟨⟨Aq2, nq2, cq2⟩, ⟨Ai2, ni2, ci2⟩, ⟨An2, nn2, cn2⟩, ⟨Aa2, na2, ca2⟩⟩ := v2
  obtain rfl : nq2 = nq := H0.out
  obtain rfl : ni2 = ni := H1.out
  obtain rfl : nn2 = nn := H2.out
  obtain rfl : na2 = na := H3.out
  dsimp only at m0 m1 m2 m3
  go_enter Tryd.func23, Tryd.ntmps23
  go_wp2_with fail
  refine (eqStringS_c Aq Aq2 nq2 cq cq2 c.queue _ m0 (hr.q.below (bAlloc (bAlloc (Below.refl _ _) _) _)) (hr2.q.below (bAlloc (bAlloc (Below.refl _ _) _) _))).mono ?_
  rintro e w1 ⟨rfl, hb1⟩
  have H := bTrans (bAlloc (bAlloc (Below.refl _ _) _) _) hb1
  have hz := bsz2 hb1
  have k10 := bBox hb1 (w.heap.size) (by simp; try omega)
  have k11 := bBox hb1 (w.heap.size + 1) (by simp)
  go_wp2_with fail
  refine (eqStringS_c Ai Ai2 ni2 ci ci2 c.inbox _ m1 (hr.i.below H) (hr2.i.below H)).mono ?_
  rintro e w2 ⟨rfl, hb2⟩
  have H := bTrans H hb2
  have hz : w.heap.size + 2 ≤ w2.heap.size := by have := hb2.size; omega
  have k20 := bBox hb2 (w.heap.size) (by omega)
  have k21 := bBox hb2 (w.heap.size + 1) (by omega)
  go_wp2_with fail
  refine (eqPacketS_c An An2 nn2 cn cn2 c.net _ m2 (hr.n.below H) (hr2.n.below H)).mono ?_
  rintro e w3 ⟨rfl, hb3⟩
  have H := bTrans H hb3
  have hz : w.heap.size + 2 ≤ w3.heap.size := by have := hb3.size; omega
  have k30 := bBox hb3 (w.heap.size) (by omega)
  have k31 := bBox hb3 (w.heap.size + 1) (by omega)
  go_wp2_with fail
  refine (eqPacketS_c Aa Aa2 na2 ca ca2 c.acks _ m3 (hr.a.below H) (hr2.a.below H)).mono ?_
  rintro e w4 ⟨rfl, hb4⟩
  have H := bTrans H hb4
  have hz : w.heap.size + 2 ≤ w4.heap.size := by have := hb4.size; omega
  go_wp2_with fail
  go_ret
  exact ⟨rfl, H⟩
end Go.Proofs.YtgpmmmfnbphgdaaDoor
