/- Channels: IsChannel, copies, Offer, TakeInbox: what the two of each answer. -/
import Derived.Test.YtgpmmmfnbphgdaaDoorChan2
import Derived.Outline
namespace Go.Proofs.YtgpmmmfnbphgdaaDoor
open Go.RowKit
set_option linter.unusedVariables false
set_option linter.unusedSimpArgs false
set_option maxHeartbeats 400000
set_option maxRecDepth 100000
theorem i64_of_wf {n : Int} (h : wfI n) : -9223372036854775808 ≤ n ∧ n ≤ 9223372036854775807 := by
  unfold wfI at h
  simp [Lit.wf] at h
  have e : IntKind.i64.min = -9223372036854775808 := rfl
  rw [e] at h
  exact h
def shorts (l : List ByteArray) : Bool := l.all fun s => decide (s.size ≤ 300)
def ShInv (l : List ByteArray) (k : Nat) : Prop := shorts l = shorts (l.drop k)
theorem ShInv.step {l : List ByteArray} {k : Nat} {s : ByteArray} (h : ShInv l k) (hf : Hid (l[k]? = some s)) : shorts l = (decide (s.size ≤ 300) && shorts (l.drop (k + 1))) := by
  unfold ShInv at h; rw [h, drop_at hf]; rfl
theorem ShInv.done {l : List ByteArray} {k n : Nat} (h : ShInv l k) (hl : Hid (l.length = n)) (hk : ¬ k < n) : Hid (shorts l = true) := by
  unfold ShInv at h; rw [Hid, h, drop_end hl hk]; rfl
theorem isChan_eq (c : Chan) : Hid (isChan c = (shorts c.queue && (decide (c.queue.length ≤ 8) && (inR c.base 0 1000000 && (inR c.expected c.base (c.base + c.queue.length) && (decide (c.net.length ≤ 12) && decide (c.acks.length ≤ 12))))))) := rfl
theorem impl_IsChannel_c (v : CV) (c : Chan) (w : World) (hb : wfI c.base) (hr : RdC w v c) :
    Calls Tryd.prog 18 #[vChan v c.base c.expected] w fun e w' => e = rBool (isChan c) ∧ Below w.heap.size w w' := by
  have q0 := hr.q.len; have q2 := hr.n.len; have q3 := hr.a.len
  have E := isChan_eq c
  have hb1 : -9223372036854775808 ≤ c.base ∧ c.base ≤ 9223372036854775807 := i64_of_wf hb
  by_cases hL : v.q.n ≤ 8 ∧ v.n.n ≤ 12 ∧ v.a.n ≤ 12
  · obtain ⟨l0, l1, l2⟩ := hL
    have HB := Lib.hid hb1
    clear hb1 hb
    go_enter Tryd.func18, Tryd.ntmps18
    go_wp2_with fail
    go_loop [24] (fun i => ∃ k : Nat, k ≤ v.q.n ∧ i = .int .i64 k ∧ ShInv c.queue k) (fun i => v.q.n - (intOf i).toNat)
    case atStart => exact ⟨0, by omega, rfl, rfl⟩
    case round =>
      obtain ⟨k, hk, rfl, hi⟩ := hrel
      by_cases hlt : k < v.q.n
      · obtain ⟨s, g, off, hf, hA, g0⟩ := RowS.at_ hr.q hlt
        have lw := cell_lt g0
        dsimp only at lw
        have hst := Lib.hid (hi.step hf)
        clear hi
        rw [hA]
        by_cases hs : s.size ≤ 300
        · have hnx : ShInv c.queue (k + 1) := by rw [ShInv, hst.out]; simp [hs]
          go_wp2_with fail
          go_round
          case rel => exact ⟨k + 1, by omega, by go_num, hnx⟩
          case measure => simp [intOf]; omega
        · have hfin : Hid (isChan c = false) := by rw [Hid, E.out, hst.out]; simp [hs]
          go_wp2_with fail
          go_ret
          exact ⟨by rw [hfin.out]; rfl, bAlloc (Below.refl _ _) _⟩
      · have hfin := hi.done q0 hlt
        go_wp2_with fail
        have L0 := q0.out; have L2 := q2.out; have L3 := q3.out
        all_goals (go_ret; refine ⟨ret_bool ?_, bAlloc (Below.refl _ _) _⟩; rw [E.out, hfin.out, Bool.eq_iff_iff]; simp [inR]; omega)
  · have hfin : Hid (isChan c = false) := by
      have L0 := q0.out; have L2 := q2.out; have L3 := q3.out
      rw [Hid, E.out]
      by_cases h8 : c.queue.length ≤ 8
      · by_cases h12 : c.net.length ≤ 12
        · have : ¬ c.acks.length ≤ 12 := by omega
          simp [this]
        · simp [h12]
      · simp [h8]
    clear hb1 hb
    go_enter Tryd.func18, Tryd.ntmps18
    go_wp2_with fail
    all_goals first
      | (exfalso; omega)
      | (go_ret; exact ⟨by rw [hfin.out]; rfl, bAlloc (Below.refl _ _) _⟩)
theorem impl_IsChannel_k (v : CV) (c : Chan) (w : World) (hm : bulkC c ≤ 1048576) (hok : okC c) (hr : RdC w v c) :
    Calls Tryd.prog 18 #[vChan v c.base c.expected] w fun e w' => e = rBool (isChan c) ∧ Below w.heap.size w w' := impl_IsChannel_c v c w hok.2.2.2.2.1 hr
theorem spec_IsChannel_c (v : CV) (c : Chan) (w : World) (m0 : v.q.n ≤ 4194304) (hr : RdC w v c) :
    Calls Tryd.prog 71 #[vChan v c.base c.expected] w fun e w' => e = rBool (isChan c) ∧ Below w.heap.size w w' := by
  have q0 := hr.q.len; have q2 := hr.n.len; have q3 := hr.a.len
  have E := isChan_eq c
  go_enter Tryd.func71, Tryd.ntmps71
  go_wp2_with fail
  go_loop [8] (fun i => ∃ k : Nat, k ≤ v.q.n ∧ i = .int .i64 k ∧ ShInv c.queue k) (fun i => v.q.n - (intOf i).toNat)
  case atStart => exact ⟨0, by omega, rfl, rfl⟩
  case round =>
    obtain ⟨k, hk, rfl, hi⟩ := hrel
    by_cases hlt : k < v.q.n
    · obtain ⟨s, g, off, hf, hA, g0⟩ := RowS.at_ hr.q hlt
      have lw := cell_lt g0
      dsimp only at lw
      have hst := Lib.hid (hi.step hf)
      clear hi
      rw [hA]
      by_cases hs : s.size ≤ 300
      · have hnx : ShInv c.queue (k + 1) := by rw [ShInv, hst.out]; simp [hs]
        go_wp2_with fail
        go_round
        case rel => exact ⟨k + 1, by omega, by go_num, hnx⟩
        case measure => simp [intOf]; omega
      · have hfin : Hid (isChan c = false) := by rw [Hid, E.out, hst.out]; simp [hs]
        go_wp2_with fail
        go_ret
        exact ⟨by rw [hfin.out]; rfl, bAlloc (Below.refl _ _) _⟩
    · have hfin := hi.done q0 hlt
      have L0 := q0.out; have L2 := q2.out; have L3 := q3.out
      have HL0 := Lib.hid L0; have HL2 := Lib.hid L2; have HL3 := Lib.hid L3
      clear L0 L2 L3
      by_cases hbase : 0 ≤ c.base ∧ c.base ≤ 1000000
      · have hi0 := Lib.hid (inR_iff.2 hbase)
        obtain ⟨hb0, hb1⟩ := hbase
        generalize hx : inR c.expected c.base (c.base + v.q.n) = bx
        have hX := Lib.hid hx
        clear hx
        go_wp2_with (go_at_call 72; refine (l01In_c _ _ _ _).mono ?_; (first | rw [hi0.out] | rw [hX.out]); rintro e w2 ⟨rfl, rfl⟩)
        all_goals (go_ret; refine ⟨ret_bool ?_, bAlloc (Below.refl _ _) _⟩; rw [E.out, hfin.out, HL0.out, HL2.out, HL3.out, hi0.out, hX.out]; first | (simp_all; done) | (simp_all; omega) | (simp_all; rw [Bool.eq_iff_iff]; simp; omega))
      · have hi0 : Hid (inR c.base 0 1000000 = false) := by simpa [Hid, inR] using hbase
        have hff : Hid (isChan c = false) := by rw [Hid, E.out, hi0.out]; simp
        clear hbase
        go_wp2_with (go_at_call 72; refine (l01In_c _ _ _ _).mono ?_; rw [hi0.out]; rintro e w2 ⟨rfl, rfl⟩)
        all_goals (go_ret; refine ⟨by rw [hff.out]; rfl, bAlloc (Below.refl _ _) _⟩)
theorem spec_IsChannel_k (v : CV) (c : Chan) (w : World) (hm : bulkC c ≤ 1048576) (hok : okC c) (hr : RdC w v c) :
    Calls Tryd.prog 71 #[vChan v c.base c.expected] w fun e w' => e = rBool (isChan c) ∧ Below w.heap.size w w' := spec_IsChannel_c v c w (by have := hr.q.len.out; unfold bulkC at hm; omega) hr
end Go.Proofs.YtgpmmmfnbphgdaaDoor
