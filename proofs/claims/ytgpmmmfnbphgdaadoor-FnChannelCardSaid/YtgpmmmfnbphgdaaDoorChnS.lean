/- Strings are sent; a move without a packet: the reference. -/
import Derived.Test.YtgpmmmfnbphgdaaDoorChnA
namespace Go.Proofs.YtgpmmmfnbphgdaaDoor
open Go.RowKit
set_option linter.unusedVariables false
set_option linter.unusedSimpArgs false
set_option maxHeartbeats 2000000
set_option maxRecDepth 100000
theorem sendL_snoc : ∀ (l : List ByteArray) (s : ByteArray) (n : Int) (net : List Packet), sendL (l ++ [s]) n net = putK (sendL l n net) (newPkt false (n + l.length) s)
  | [], s, n, net => by simp [sendL]
  | x :: l, s, n, net => by
    simp only [List.cons_append, sendL, List.length_cons]
    rw [sendL_snoc l s]
    congr 2
    push_cast; omega
/-- Net behind i rounds of sending -/
def sentK (c : Chan) (i : Nat) : List Packet := sendL (c.queue.take (min i 3)) c.base c.net
theorem sentK_zero (c : Chan) : sentK c 0 = c.net := by simp [sentK, sendL]
theorem sentK_more (c : Chan) {i : Nat} (h : 3 ≤ i) : sentK c (i + 1) = sentK c i := by unfold sentK; congr 2; omega
theorem sentK_next (c : Chan) {i : Nat} {s : ByteArray} (h : i < 3) (hs : c.queue[i]? = some s) : sentK c (i + 1) = putK (sentK c i) (newPkt false (c.base + i) s) := by
  unfold sentK
  have e1 : min (i + 1) 3 = i + 1 := by omega
  have e2 : min i 3 = i := by omega
  obtain ⟨hi, rfl⟩ := List.getElem?_eq_some_iff.1 hs
  rw [e1, e2, List.take_succ_eq_append_getElem hi, sendL_snoc]
  congr 2
  simp only [List.length_take]; omega
theorem sentK_end (c : Chan) {i : Nat} (h : c.queue.length ≤ i ∨ 3 ≤ i) : sentK c i = sendL (c.queue.take 3) c.base c.net := by
  unfold sentK; congr 1
  by_cases h3 : 3 ≤ i
  · rw [show min i 3 = 3 by omega]
  · have hl : c.queue.length ≤ i := by omega
    rw [List.take_of_length_le (by omega), List.take_of_length_le (by omega)]
theorem sendL_len : ∀ (l : List ByteArray) (n : Int) (net : List Packet), net.length ≤ 12 → (sendL l n net).length ≤ 12
  | [], n, net, h => h
  | s :: l, n, net, h => sendL_len l (n + 1) _ (putK_len h)
theorem sentK_len (c : Chan) (i : Nat) (h : c.net.length ≤ 12) : (sentK c i).length ≤ 12 := sendL_len _ _ _ h
theorem spec_net_0 (v : CV) (c : Chan) (mv at_ : Int) (B : Nat) (w : World) (hn0 : c.net = []) (ho : OwC w v c) (hf : Fresh B w (fpC v)) (hB : B ≤ w.heap.size) :
    Calls Tryd.prog 75 #[vChan v c.base c.expected, .int .i64 mv, .int .i64 at_] w fun e w' => CPost w (fpC v) B c e w' := by
  have hz : v.n.n = 0 := by have h1 := ho.n.len; rw [hn0] at h1; simpa using h1.symm
  obtain ⟨vq, vi, vn, va⟩ := v
  obtain ⟨zA, zn, zc⟩ := vn
  dsimp only at hz
  subst hz
  have CB1 := Lib.hid (CB.start ho hf hB)
  clear ho hf hn0
  go_enter Tryd.func75, Tryd.ntmps75
  go_wp2_with fail
  refine bodyPost_ret (v := vChan ⟨vq, vi, ⟨zA, 0, zc⟩, va⟩ c.base c.expected) (by simp [*, results, Tryd.results75, go_sem]) rfl ⟨_, rfl, ?_⟩
  have CB2 := CB1.out.below (bAlloc (Below.refl _ _) (.cells #[.slice vq.A vq.n vq.c, .int .i64 c.base, .int .i64 c.expected, .slice vi.A vi.n vi.c, .slice zA 0 zc, .slice va.A va.n va.c] 26))
  exact ⟨CB2.ow, CB2.fr, CB2.mv, CB2.up⟩
theorem spec_ack_0 (v : CV) (c : Chan) (mv at_ : Int) (B : Nat) (w : World) (hn0 : c.acks = []) (ho : OwC w v c) (hf : Fresh B w (fpC v)) (hB : B ≤ w.heap.size) :
    Calls Tryd.prog 74 #[vChan v c.base c.expected, .int .i64 mv, .int .i64 at_] w fun e w' => CPost w (fpC v) B c e w' := by
  have hz : v.a.n = 0 := by have h1 := ho.a.len; rw [hn0] at h1; simpa using h1.symm
  obtain ⟨vq, vi, vn, va⟩ := v
  obtain ⟨zA, zn, zc⟩ := va
  dsimp only at hz
  subst hz
  have CB1 := Lib.hid (CB.start ho hf hB)
  clear ho hf hn0
  go_enter Tryd.func74, Tryd.ntmps74
  go_wp2_with fail
  refine bodyPost_ret (v := vChan ⟨vq, vi, vn, ⟨zA, 0, zc⟩⟩ c.base c.expected) (by simp [*, results, Tryd.results74, go_sem]) rfl ⟨_, rfl, ?_⟩
  have CB2 := CB1.out.below (bAlloc (Below.refl _ _) (.cells #[.slice vq.A vq.n vq.c, .int .i64 c.base, .int .i64 c.expected, .slice vi.A vi.n vi.c, .slice vn.A vn.n vn.c, .slice zA 0 zc] 26))
  exact ⟨CB2.ow, CB2.fr, CB2.mv, CB2.up⟩
theorem spec_send_k (v : CV) (c : Chan) (B : Nat) (w : World) {m : Int} (hok : OKC m c) (ho : OwC w v c) (hf : Fresh B w (fpC v)) (hB : B ≤ w.heap.size) :
    Calls Tryd.prog 73 #[vChan v c.base c.expected] w fun e w' => CPost w (fpC v) B (sendC c) e w' := by
  obtain ⟨⟨qA, qn, qc⟩, vi, vn, va⟩ := v
  have hqn : Hid (c.queue.length = qn) := by have h1 := ho.q.len; rw [List.length_map] at h1; exact h1
  have hq8 : qn ≤ 8 := by have h1 := hok.lq; have := hqn.out; omega
  have hb0 := hok.b0
  have hb1 : c.base ≤ 1000008 := by have := hok.b1; omega
  have HOK := Lib.hid hok
  have CB0 := CB.side (CB.start ho hf hB) 26 zC
  have hst : CB w (fpC ⟨⟨qA, qn, qc⟩, vi, vn, va⟩) B w.heap.size ⟨⟨qA, qn, qc⟩, vi, vn, va⟩ { c with net := sentK c 0 } [⟨w.heap.size + 1, 26, zC⟩] ((w.alloc (.cells #[.slice qA qn qc, .int .i64 c.base, .int .i64 c.expected, .slice vi.A vi.n vi.c, .slice vn.A vn.n vn.c, .slice va.A va.n va.c] 26)).alloc (.cells #[.slice none 0 0, .int .i64 0, .int .i64 0, .slice none 0 0, .slice none 0 0, .slice none 0 0] 26)) := by
    rw [sentK_zero]
    have e : (w.alloc (.cells #[.slice qA qn qc, .int .i64 c.base, .int .i64 c.expected, .slice vi.A vi.n vi.c, .slice vn.A vn.n vn.c, .slice va.A va.n va.c] 26)).heap.size = w.heap.size + 1 := by simp
    rw [← e]
    exact CB0
  have HST := Lib.hid hst
  generalize hFS : fpC ⟨⟨qA, qn, qc⟩, vi, vn, va⟩ = FS at *
  clear hok ho hf CB0 hst hFS
  go_enter Tryd.func73, Tryd.ntmps73
  go_wp2_with fail
  go_loopw [8] (fun i wr => ∃ (k : Nat) (vn' : Sv), i = .int .i64 (k : Int) ∧ k ≤ qn ∧ CB w FS B w.heap.size ⟨⟨qA, qn, qc⟩, vi, vn', va⟩ { c with net := sentK c k } [⟨w.heap.size + 1, 26, zC⟩] wr) (fun i _ => qn - (intOf i).toNat)
  case atStart => exact ⟨0, vn, rfl, Nat.zero_le _, HST.out⟩
  case round =>
    obtain ⟨k, vn', rfl, hk, hcb⟩ := hrel
    have CBW := Lib.hid hcb
    obtain ⟨x0, x1, x2, x3, x4, x5, xf, xz⟩ := CB.at6 CBW.out
    obtain ⟨r0, r1, r2, r3, r4, r5, rf, rz⟩ := CB.res6 CBW.out (Upd.refl [] _) (fun q hq => by cases hq) (b := w.heap.size + 1) (t := 26) (by simp)
    clear hcb HST
    by_cases hlt : k < qn
    · obtain ⟨s, g, off, hs, hA, hc⟩ := RowS.at_ CBW.out.ow.q.row hlt
      dsimp only at hA
      subst hA
      have hs8 : s.size ≤ 1048576 := HOK.out.q s (List.mem_of_getElem? hs.out)
      have hk0 : (0 : Int) ≤ (k : Int) := by omega
      have hk1 : (k : Int) < (qn : Int) := by omega
      by_cases h3 : k < 3
      · have h3' : (k : Int) < 3 := by omega
        have hw : IntKind.i64.wrap (c.base + (k : Int)) = c.base + (k : Int) := by rw [IntKind.wrap_i64]; omega
        have hS := Lib.hid (sentK_next c h3 hs.out)
        have hnl := sentK_len c k HOK.out.ln
        have hpk := fun W => spec_pkt_false (c.base + (k : Int)) s W (by omega) (by omega) hs8
        clear hs
        go_wp2_with fail
        refine region_at fun R hR => ?_
        have CBR := Lib.hid (CB.at_ CBW.out hR)
        have CBD := Lib.hid (CB.below CBR.out (bDrew (Below.refl _ _)))
        obtain ⟨x0, x1, x2, x3, x4, x5, xf, xz⟩ := CB.at6 CBR.out
        obtain ⟨r0, r1, r2, r3, r4, r5, rf, rz⟩ := CB.res6 CBR.out (Upd.refl [] _) (fun q hq => by cases hq) (b := w.heap.size + 1) (t := 26) (by simp)
        clear hR CBW hc
        go_region_law (first
          | (go_simp; go_at_call 129; refine (hpk _).mono ?_; rintro e w7 ⟨rfl, hb7⟩; have CB7 := Lib.hid (CB.below CBD.out hb7); obtain ⟨x0, x1, x2, x3, x4, x5, xf, xz⟩ := CB.at6 CB7.out)
          | (go_simp; go_at_call 128; refine (spec_put_k vn' (sentK c k) (newPkt false (c.base + (k : Int)) s) _ (by omega) ?_).mono ?_; exact CB7.out.ow.n; rintro e w8 ⟨v8, rfl, ho8, hu8, hv8⟩; have CB8 := Lib.hid (CB.turn_n CB7.out ho8 hu8 hv8); obtain ⟨x0, x1, x2, x3, x4, x5, xf, xz⟩ := CB.kept6 CB7.out hu8 (fun q hq => fpC_mem.2 (.inr (.inr (.inl hq))))))
        all_goals
          rw [← hS.out] at CB8
          clear CB7 CBR CBD hpk
          go_wp2_with fail
          exact ⟨⟨k + 1, v8, by simp, by omega, CB8.out⟩, by simp only [intOf]; omega⟩
      · have h3' : ¬ (k : Int) < 3 := by omega
        have hS := Lib.hid (sentK_more c (i := k) (by omega))
        go_wp2_with fail
        exact ⟨⟨k + 1, vn', by simp, by omega, by rw [hS.out]; exact CBW.out⟩, by simp only [intOf]; omega⟩
    · obtain rfl : k = qn := by omega
      have hkn : ¬ (k : Int) < (k : Int) := by omega
      have hE : Hid (sendC c = { c with net := sentK c k }) := by
        unfold Hid sendC; rw [sentK_end c (.inl (by have := hqn.out; omega))]
      go_wp2_with fail
      refine bodyPost_ret (v := vChan ⟨⟨qA, k, qc⟩, vi, vn', va⟩ c.base c.expected) (by simp [*, results, Tryd.results73, go_sem]) rfl ?_
      rw [hE.out]
      refine ⟨_, rfl, ?_⟩
      exact CB.fin CBW.out (s := ⟨w.heap.size + 1, 26, zC⟩) (by simp) (((((((Upd.refl _ _).set_in (by simp) _).set_in (by simp) _).set_in (by simp) _).set_in (by simp) _).set_in (by simp) _).set_in (by simp) _)
end Go.Proofs.YtgpmmmfnbphgdaaDoor
