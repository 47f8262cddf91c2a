/- Channels: the laws' marks; a channel that came in. -/
import Derived.Test.YtgpmmmfnbphgdaaDoorChan
namespace Go.Proofs.YtgpmmmfnbphgdaaDoor
open Go.RowKit
set_option linter.unusedVariables false
set_option linter.unusedSimpArgs false
set_option maxHeartbeats 400000
set_option maxRecDepth 100000
def mkStrs (k : Int) (l : List ByteArray) : List ByteArray := (List.range l.length).map fun (i : Nat) => markTxt (k + (i : Int))
def mkPkt (k : Int) (i : Nat) : Packet := ⟨(k + 4 * (i : Int)) % 3 == 0, k + 4 * (i : Int) + 1, markTxt (k + 4 * (i : Int) + 2), k + 4 * (i : Int) + 3⟩
def mkPkts (k : Int) (l : List Packet) : List Packet := (List.range l.length).map (mkPkt k)
theorem mkStrs_cells {k : Int} {l : List ByteArray} {n : Nat} (h : Hid (l.length = n)) : (mkStrs k l).map strCells = (List.range n).map (markString k) := by
  rw [← h.out]
  simp only [mkStrs, List.map_map]
  apply List.map_congr_left
  intro i _
  simp [markString, mkCString, strCells]
theorem mkPkts_cells {k : Int} {l : List Packet} {n : Nat} (h : Hid (l.length = n)) : (mkPkts k l).map Packet.cells = (List.range n).map (markPacket k) := by
  rw [← h.out]
  simp only [mkPkts, List.map_map]
  rfl
def cntC (c : Chan) : Nat := c.queue.length + (c.inbox.length + (4 * c.net.length + 4 * c.acks.length))
def mkC (k : Int) (c : Chan) : Chan := { c with queue := mkStrs k c.queue, inbox := mkStrs (k + c.queue.length) c.inbox, net := mkPkts (k + c.queue.length + c.inbox.length) c.net, acks := mkPkts (k + c.queue.length + c.inbox.length + 4 * c.net.length) c.acks }
theorem cntC_few {c : Chan} (h : fewC c) : (cntC c : Int) ≤ 20000000 := by unfold cntC; unfold fewC at h; omega
theorem bulk_cnt (c : Chan) : cntC c ≤ 4 * bulkC c := by unfold cntC bulkC; omega
theorem markChannel_k (v : CV) (c : Chan) (k0 : Int) (w : World) (hk0 : 0 ≤ k0) (hk1 : k0 ≤ 10000000000) (hm : fewC c) (ho : OwC w v c) (hnd : (fpC v).Nodup) :
    Calls Tryd.prog 24 #[vChan v c.base c.expected, .int .i64 k0] w fun e w' => e = rInt (k0 + cntC c) ∧ OwC w' v (mkC k0 c) ∧ Upd (fpC v) w w' := by
  have q0 := ho.rd.q.len
  have m0 : v.q.n ≤ 1048576 := by have := q0.out; unfold fewC at hm; omega
  have q1 := ho.rd.i.len
  have m1 : v.i.n ≤ 1048576 := by have := q1.out; unfold fewC at hm; omega
  have q2 := ho.rd.n.len
  have m2 : v.n.n ≤ 1048576 := by have := q2.out; unfold fewC at hm; omega
  have q3 := ho.rd.a.len
  have m3 : v.a.n ≤ 1048576 := by have := q3.out; unfold fewC at hm; omega
  clear hm
  have hlt := ho.lt
  obtain ⟨o0, o1, o2, o3⟩ := ho
  obtain ⟨⟨Aq, nq, cq⟩, ⟨Ai, ni, ci⟩, ⟨An, nn, cn⟩, ⟨Aa, na, ca⟩⟩ := v
  simp only [fpC, List.nodup_append] at hnd
  obtain ⟨_, ⟨_, ⟨_, _, d23⟩, d1⟩, d0⟩ := hnd
  simp only [fpC] at hlt
  dsimp only at m0 m1 m2 m3 o0 o1 o2 o3 d0 d1 d23 hlt q0 q1 q2 q3
  have L := Lib.hid hlt
  have D0 := Lib.hid d0; have D1 := Lib.hid d1; have D2 := Lib.hid d23
  clear d0 d1 d23 hlt
  go_enter Tryd.func24, Tryd.ntmps24
  have hbx : ∀ k, k ∈ obl Aq ∨ k ∈ obl Ai ∨ k ∈ obl An ∨ k ∈ obl Aa → k < w.heap.size := fun k hk => L.out k (by simp only [List.mem_append]; exact hk)
  have HB := Lib.hid hbx
  clear hbx
  go_wp2_with fail
  refine (markStringS_c Aq nq cq 0 _ _ _ m0 (by omega) (by omega) (o0.alloc_ _)).mono ?_
  rintro e w1 ⟨rfl, o0', g0⟩
  have u0 := Upd.of_row g0
  have hz : w.heap.size + 1 ≤ w1.heap.size := by have := g0.size; simp at this; omega
  have kk0 := gBox g0 w.heap.size (by simp) (fun k hk e => by have := HB.out k (.inl (mem_obl.2 hk)); omega)
  have o1 := (o1.alloc_ _).upd u0 (fun k hk hm => D0.out k hm k (by simp [hk]) rfl)
  have o2 := (o2.alloc_ _).upd u0 (fun k hk hm => D0.out k hm k (by simp [hk]) rfl)
  have o3 := (o3.alloc_ _).upd u0 (fun k hk hm => D0.out k hm k (by simp [hk]) rfl)
  have o0 := o0'
  clear o0'
  go_wp2_with fail
  refine (markStringS_c Ai ni ci 0 _ _ _ m1 (by omega) (by omega) o1).mono ?_
  rintro e w2 ⟨rfl, o1', g1⟩
  have u1 := Upd.of_row g1
  have hz : w.heap.size + 1 ≤ w2.heap.size := by have := g1.size; omega
  have kk1 := gBox g1 w.heap.size (by omega) (fun k hk e => by have := HB.out k (.inr <| .inl (mem_obl.2 hk)); omega)
  have o0 := o0.upd u1 (fun k hk hm => D0.out k hk k (by simp [hm]) rfl)
  have o2 := o2.upd u1 (fun k hk hm => D1.out k hm k (by simp [hk]) rfl)
  have o3 := o3.upd u1 (fun k hk hm => D1.out k hm k (by simp [hk]) rfl)
  have o1 := o1'
  clear o1'
  go_wp2_with fail
  refine (markPacketS_c An nn cn 0 _ _ _ m2 (by omega) (by omega) o2).mono ?_
  rintro e w3 ⟨rfl, o2', g2⟩
  have u2 := Upd.of_row g2
  have hz : w.heap.size + 1 ≤ w3.heap.size := by have := g2.size; omega
  have kk2 := gBox g2 w.heap.size (by omega) (fun k hk e => by have := HB.out k (.inr <| .inr <| .inl (mem_obl.2 hk)); omega)
  have o0 := o0.upd u2 (fun k hk hm => D0.out k hk k (by simp [hm]) rfl)
  have o1 := o1.upd u2 (fun k hk hm => D1.out k hk k (by simp [hm]) rfl)
  have o3 := o3.upd u2 (fun k hk hm => D2.out k hm k (by simp [hk]) rfl)
  have o2 := o2'
  clear o2'
  go_wp2_with fail
  refine (markPacketS_c Aa na ca 0 _ _ _ m3 (by omega) (by omega) o3).mono ?_
  rintro e w4 ⟨rfl, o3', g3⟩
  have u3 := Upd.of_row g3
  have hz : w.heap.size + 1 ≤ w4.heap.size := by have := g3.size; omega
  have o0 := o0.upd u3 (fun k hk hm => D0.out k hk k (by simp [hm]) rfl)
  have o1 := o1.upd u3 (fun k hk hm => D1.out k hk k (by simp [hm]) rfl)
  have o2 := o2.upd u3 (fun k hk hm => D2.out k hk k (by simp [hm]) rfl)
  have o3 := o3'
  clear o3'
  go_wp2_with fail
  go_ret
  refine ⟨ret_int ?_, ⟨?_, ?_, ?_, ?_⟩, ?_⟩
  · have := q0.out; have := q1.out; have := q2.out; have := q3.out
    unfold cntC; push_cast; omega
  · rw [show (mkC k0 c).queue = mkStrs k0 c.queue from rfl, mkStrs_cells q0]; exact o0
  · rw [show (mkC k0 c).inbox = mkStrs (k0 + c.queue.length) c.inbox from rfl, mkStrs_cells q1, q0.out]; simpa using o1
  · rw [show (mkC k0 c).net = mkPkts (k0 + c.queue.length + c.inbox.length) c.net from rfl, mkPkts_cells q2, q0.out, q1.out]; simpa using o2
  · rw [show (mkC k0 c).acks = mkPkts (k0 + c.queue.length + c.inbox.length + 4 * c.net.length) c.acks from rfl, mkPkts_cells q3, q0.out, q1.out, q2.out]; simpa using o3
  · simp only [fpC]
    have U0 : Upd (obl Aq ++ (obl Ai ++ (obl An ++ obl Aa))) w w1 := (Upd.of_below (bAlloc (Below.refl _ _) _)).trans (u0.mono fun k hk => by simp [hk])
    exact ((U0.trans (u1.mono fun k hk => by simp [hk])).trans (u2.mono fun k hk => by simp [hk])).trans (u3.mono fun k hk => by simp [hk])
theorem heldChannel_c (v : CV) (c : Chan) (k0 : Int) (w : World) (hk0 : 0 ≤ k0) (hk1 : k0 ≤ 10000000000) (hm : fewC c) (hl : v.q.n = c.queue.length ∧ v.i.n = c.inbox.length ∧ v.n.n = c.net.length ∧ v.a.n = c.acks.length) (hr : RdC w v (mkC k0 c)) (b e : Int) :
    Calls Tryd.prog 25 #[vChan v b e, .int .i64 k0] w fun e w' => e = rInt (k0 + cntC c) ∧ Below w.heap.size w w' := by
  obtain ⟨⟨Aq, nq, cq⟩, ⟨Ai, ni, ci⟩, ⟨An, nn, cn⟩, ⟨Aa, na, ca⟩⟩ := v
  obtain ⟨h0, h1, h2, h3⟩ := hr
  dsimp only at hl h0 h1 h2 h3
  obtain ⟨l0, l1, l2, l3⟩ := hl
  have q0 : Hid (c.queue.length = nq) := l0.symm
  have q1 : Hid (c.inbox.length = ni) := l1.symm
  have q2 : Hid (c.net.length = nn) := l2.symm
  have q3 : Hid (c.acks.length = na) := l3.symm
  have m0 : nq ≤ 1048576 := by unfold fewC at hm; omega
  have m1 : ni ≤ 1048576 := by unfold fewC at hm; omega
  have m2 : nn ≤ 1048576 := by unfold fewC at hm; omega
  have m3 : na ≤ 1048576 := by unfold fewC at hm; omega
  clear hm l0 l1 l2 l3
  have h0 : Row w Aq nq 1 ((List.range nq).map (markString k0)) := by rw [← mkStrs_cells q0]; exact h0
  have h1 : Row w Ai ni 1 ((List.range ni).map (markString (k0 + (nq : Int)))) := by
    have e : k0 + (nq : Int) = k0 + c.queue.length := by rw [q0.out]
    rw [e, ← mkStrs_cells q1]; exact h1
  have h2 : Row w An nn 4 ((List.range nn).map (markPacket (k0 + (nq : Int) + (ni : Int)))) := by
    have e : k0 + (nq : Int) + (ni : Int) = k0 + c.queue.length + c.inbox.length := by rw [q0.out, q1.out]
    rw [e, ← mkPkts_cells q2]; exact h2
  have h3 : Row w Aa na 4 ((List.range na).map (markPacket (k0 + (nq : Int) + (ni : Int) + 4 * (nn : Int)))) := by
    have e : k0 + (nq : Int) + (ni : Int) + 4 * (nn : Int) = k0 + c.queue.length + c.inbox.length + 4 * c.net.length := by rw [q0.out, q1.out, q2.out]
    rw [e, ← mkPkts_cells q3]; exact h3
  go_enter Tryd.func25, Tryd.ntmps25
  go_wp2_with fail
  refine (heldStringS_c Aq nq cq (k0) _ m0 (by omega) (by omega) (h0.below (bAlloc (Below.refl _ _) _))).mono ?_
  rintro e w1 ⟨rfl, hb1⟩
  have H := bTrans (bAlloc (Below.refl _ _) _) hb1
  have hz : w.heap.size + 1 ≤ w1.heap.size := by exact bsz1 hb1
  have k1 := bBox hb1 w.heap.size (by simp)
  go_wp2_with fail
  refine (heldStringS_c Ai ni ci (k0 + (nq : Int)) _ m1 (by omega) (by omega) (h1.below H)).mono ?_
  rintro e w2 ⟨rfl, hb2⟩
  have H := bTrans H hb2
  have hz : w.heap.size + 1 ≤ w2.heap.size := by have := hb2.size; omega
  have k2 := bBox hb2 w.heap.size (by omega)
  go_wp2_with fail
  refine (heldPacketS_c An nn cn (k0 + (nq : Int) + (ni : Int)) _ m2 (by omega) (by omega) (h2.below H)).mono ?_
  rintro e w3 ⟨rfl, hb3⟩
  have H := bTrans H hb3
  have hz : w.heap.size + 1 ≤ w3.heap.size := by have := hb3.size; omega
  have k3 := bBox hb3 w.heap.size (by omega)
  go_wp2_with fail
  refine (heldPacketS_c Aa na ca (k0 + (nq : Int) + (ni : Int) + 4 * (nn : Int)) _ m3 (by omega) (by omega) (h3.below H)).mono ?_
  rintro e w4 ⟨rfl, hb4⟩
  have H := bTrans H hb4
  have hz : w.heap.size + 1 ≤ w4.heap.size := by have := hb4.size; omega
  have k4 := bBox hb4 w.heap.size (by omega)
  go_wp2_with fail
  go_ret
  refine ⟨ret_int ?_, H⟩
  have := q0.out; have := q1.out; have := q2.out; have := q3.out
  unfold cntC; push_cast; omega
theorem heldChannel_k (v : CV) (c : Chan) (k0 : Int) (w : World) (hk0 : 0 ≤ k0) (hk1 : k0 ≤ 10000000000) (hm : fewC c) (hr : RdC w v (mkC k0 c)) (b e : Int) :
    Calls Tryd.prog 25 #[vChan v b e, .int .i64 k0] w fun e w' => e = rInt (k0 + cntC c) ∧ Below w.heap.size w w' :=
  heldChannel_c v c k0 w hk0 hk1 hm ⟨by have := hr.q.len.out; simp [mkC, mkStrs] at this; exact this.symm, by have := hr.i.len.out; simp [mkC, mkStrs] at this; exact this.symm, by have := hr.n.len.out; simp [mkC, mkPkts] at this; exact this.symm, by have := hr.a.len.out; simp [mkC, mkPkts] at this; exact this.symm⟩ hr b e
theorem cells_Channel : Tryd.prog.cellsOf 40 = 6 := by kernel_rfl
theorem cells_strS : Tryd.prog.cellsOf 23 = 1 := by kernel_rfl
theorem cells_pktS : Tryd.prog.cellsOf 38 = 1 := by kernel_rfl
theorem opens_strS (w : World) : Opens Tryd.prog w 23 (gSlice w 1 gStr) := opens_slice Tryd.underlying23 cells_string (opens_str Tryd.underlying9) (by omega)
theorem rowS_of {w : World} {cs : List Value} (h : gSlice w 1 gStr cs) : ∃ A n c l, cs = [.slice A n c] ∧ n ≤ maxLen ∧ RowS w A n l ∧ ∀ f ∈ l, f.size ≤ maxLen := by
  obtain ⟨A, n, c, css, rfl, h1, h2, h3, h4⟩ := h
  obtain ⟨l, rfl, hl⟩ := list_of (c := strCells) (ok := fun s => s.size ≤ maxLen) css (fun es hes => by obtain ⟨s, h5, h6⟩ := (h4 es hes).2; exact ⟨s, h5, h6⟩)
  exact ⟨A, n, c, l, rfl, by omega, h3, hl⟩
theorem opens_PacketS (w : World) : Opens Tryd.prog w 38 (gSlice w 4 gPacket) := opens_slice Tryd.underlying38 cells_Packet (opens_Packet w) (by omega)
theorem rowK_of {w : World} {cs : List Value} (h : gSlice w 4 gPacket cs) : ∃ A n c l, cs = [.slice A n c] ∧ n ≤ maxLen ∧ RowK w A n l ∧ ∀ f ∈ l, f.ok := by
  obtain ⟨A, n, c, css, rfl, h1, h2, h3, h4⟩ := h
  obtain ⟨l, rfl, hl⟩ := list_of (c := Packet.cells) (ok := Packet.ok) css (fun es hes => (h4 es hes).2)
  exact ⟨A, n, c, l, rfl, by omega, h3, hl⟩
/-- what an argument's channel is known to be -/
def gChan (w : World) (cs : List Value) : Prop := ∃ (v : CV) (c : Chan), cs = cChan v c.base c.expected ∧ RdC w v c ∧ okC c ∧ lenC v
theorem opens_Channel (w : World) : Opens Tryd.prog w 40 (gChan w) := fun H enc base fuel spare held cs x h => by
  obtain ⟨hl, hf⟩ := opens_field Tryd.underlying40 h
  rw [cells_Channel] at hl
  obtain ⟨a, b, c, d, e, f, rfl⟩ := len6 hl
  obtain ⟨A0, n0, c0, l0, e0, s0, r0, k0⟩ := rowS_of (hf 0 _ _ rfl (opens_strS w))
  obtain ⟨n1, e1, w1⟩ := hf 1 _ gInt rfl (opens_int Tryd.underlying3)
  obtain ⟨n2, e2, w2⟩ := hf 2 _ gInt rfl (opens_int Tryd.underlying3)
  obtain ⟨A3, n3, c3, l3, e3, s3, r3, k3⟩ := rowS_of (hf 3 _ _ rfl (opens_strS w))
  obtain ⟨A4, n4, c4, l4, e4, s4, r4, k4⟩ := rowK_of (hf 4 _ _ rfl (opens_PacketS w))
  obtain ⟨A5, n5, c5, l5, e5, s5, r5, k5⟩ := rowK_of (hf 5 _ _ rfl (opens_PacketS w))
  simp [cells_int, cells_strS, cells_pktS] at e0 e1 e2 e3 e4 e5
  subst e0 e1 e2 e3 e4 e5
  exact ⟨⟨⟨A0, n0, c0⟩, ⟨A3, n3, c3⟩, ⟨A4, n4, c4⟩, ⟨A5, n5, c5⟩⟩, ⟨l0, n1, n2, l3, l4, l5⟩, rfl, ⟨r0, r3, r4, r5⟩, ⟨k0, k3, k4, k5, w1, w2⟩, s0, s3, s4, s5⟩
end Go.Proofs.YtgpmmmfnbphgdaaDoor
