/- The laws' screens on size: what they answer. -/
import Derived.Test.YtgpmmmfnbphgdaaDoorOwn
import Derived.Test.YtgpmmmfnbphgdaaDoorProg
namespace Go.Proofs.YtgpmmmfnbphgdaaDoor
open Go.RowKit
set_option linter.unusedVariables false
set_option linter.unusedSimpArgs false
set_option maxHeartbeats 400000

theorem szFactor_c (id : Int) (kind : Int) (fr : ByteArray) (to : ByteArray) (t : Int) (x : Int) (y : Int) (wt : Int) (left : Int) (w : World) (h1 : 0 ≤ left) (h2 : left ≤ 1048576) (h_fr : fr.size ≤ maxLen) (h_to : to.size ≤ maxLen) :
    Calls Tryd.prog 114 #[vFactor id kind fr to t x y wt, .int .i64 left] w fun e w' => SzPost left (fr.size + to.size) e ∧ Below w.heap.size w w' := by
  unfold maxLen at h_fr h_to
  go_enter Tryd.func114, Tryd.ntmps114
  go_wp2
  all_goals (go_ret; exact ⟨⟨_, rfl, by unfold Hid; omega⟩, bAlloc (Below.refl _ _) _⟩)



theorem szPacket_c (ack : Bool) (num : Int) (tx : ByteArray) (sum : Int) (left : Int) (w : World) (h1 : 0 ≤ left) (h2 : left ≤ 1048576) (h_tx : tx.size ≤ maxLen) :
    Calls Tryd.prog 127 #[vPacket ack num tx sum, .int .i64 left] w fun e w' => SzPost left (tx.size) e ∧ Below w.heap.size w w' := by
  unfold maxLen at h_tx
  go_enter Tryd.func127, Tryd.ntmps127
  go_wp2
  all_goals (go_ret; exact ⟨⟨_, rfl, by unfold Hid; omega⟩, bAlloc (Below.refl _ _) _⟩)

theorem szPacketS_c (A : Option Addr) (n c : Nat) (l : List Packet) (left : Int) (w : World) (h1 : 0 ≤ left) (h2 : left ≤ 1048576) (hn : n ≤ maxLen) (hr : RowK w A n l) (hs : ∀ f ∈ l, f.text.size ≤ maxLen) :
    Calls Tryd.prog 69 #[.slice A n c, .int .i64 left] w fun e w' => SzPost left (n + sumBulk Packet.bulk l) e ∧ Below w.heap.size w w' := by
  unfold maxLen at hn
  go_enter Tryd.func69, Tryd.ntmps69
  go_wp2
  · go_ret
    exact ⟨⟨_, rfl, .inl rfl⟩, Below.refl _ _⟩
  · go_loopw [1,5,23] (fun le i t wr => ∃ (k : Nat) (lf : Int), k ≤ n ∧ i = .int .i64 k ∧ le = .int .i64 lf ∧ 0 ≤ lf ∧ lf ≤ 1048576 ∧ Hid (lf + (sumBulk Packet.bulk l : Int) = left - n + (sumBulk Packet.bulk (l.drop k) : Int)) ∧ Below w.heap.size w wr) (fun _ i _ _ => n - (intOf i).toNat)
    case atStart => exact ⟨0, left - n, by omega, rfl, by go_num, by omega, by omega, by simp [Hid], Below.refl _ _⟩
    case round =>
      obtain ⟨k, lf, hk, rfl, rfl, h3, h4, he, hb⟩ := hrel
      by_cases hlt : k < n
      · obtain ⟨f, g, off, hf, rfl, g0, g1, g2, g3⟩ := RowK.at_ (hr.below hb) hlt
        have hd := Lib.hid (drop_at hf)
        have hm := Lib.hid (hs f (List.mem_of_getElem? hf.out))
        go_wp2_with (go_at_call 127; refine (szPacket_c _ _ _ _ _ _ h3 h4 hm.out).mono ?_; rintro e w1 ⟨⟨r, rfl, hp⟩, hb1⟩; rcases hp with rfl | ⟨hp0, hp1⟩)
        · go_ret
          exact ⟨⟨_, rfl, .inl rfl⟩, bTrans hb hb1⟩
        · have hp2 : r ≤ 1048576 := by have := hp1.out; omega
          have hp1' := hp1
          clear hp1
          go_wp2
          go_roundw
          case rel => exact ⟨k + 1, r, by omega, by go_num, rfl, hp0, hp2, by have := he.out; have := hp1'.out; rw [hd.out] at *; simp only [Hid, sumBulk, Packet.bulk] at *; omega, bTrans hb hb1⟩
          case measure => simp [intOf]; omega
      · have hd := Lib.hid (drop_end hr.len hlt)
        go_wp2
        go_ret
        refine ⟨⟨_, rfl, .inr ⟨h3, ?_⟩⟩, hb⟩
        have := he.out; rw [hd.out] at this; simp only [Hid, sumBulk] at *; omega

theorem szStringS_c (A : Option Addr) (n c : Nat) (l : List ByteArray) (left : Int) (w : World) (h1 : 0 ≤ left) (h2 : left ≤ 1048576) (hn : n ≤ maxLen) (hr : RowS w A n l) (hs : ∀ f ∈ l, f.size ≤ maxLen) :
    Calls Tryd.prog 68 #[.slice A n c, .int .i64 left] w fun e w' => SzPost left (n + sumBulk ByteArray.size l) e ∧ Below w.heap.size w w' := by
  unfold maxLen at hn
  go_enter Tryd.func68, Tryd.ntmps68
  go_wp2
  · go_ret
    exact ⟨⟨_, rfl, .inl rfl⟩, Below.refl _ _⟩
  · go_loopw [1,5] (fun le i wr => ∃ (k : Nat) (lf : Int), k ≤ n ∧ i = .int .i64 k ∧ le = .int .i64 lf ∧ 0 ≤ lf ∧ lf ≤ 1048576 ∧ Hid (lf + (sumBulk ByteArray.size l : Int) = left - n + (sumBulk ByteArray.size (l.drop k) : Int)) ∧ Below w.heap.size w wr) (fun _ i _ => n - (intOf i).toNat)
    case atStart => exact ⟨0, left - n, by omega, rfl, by go_num, by omega, by omega, by simp [Hid], Below.refl _ _⟩
    case round =>
      obtain ⟨k, lf, hk, rfl, rfl, h3, h4, he, hb⟩ := hrel
      by_cases hlt : k < n
      · obtain ⟨f, g, off, hf, rfl, g0⟩ := RowS.at_ (hr.below hb) hlt
        have hd := Lib.hid (drop_at hf)
        have hm := hs f (List.mem_of_getElem? hf.out)
        unfold maxLen at hm
        go_wp2
        · go_ret
          exact ⟨⟨_, rfl, .inl rfl⟩, hb⟩
        · go_roundw
          case rel => exact ⟨k + 1, lf - f.size, by omega, by go_num, rfl, by omega, by omega, by have := he.out; rw [hd.out] at this; simp only [Hid, sumBulk] at *; omega, hb⟩
          case measure => simp [intOf]; omega
      · have hd := Lib.hid (drop_end hr.len hlt)
        go_wp2
        go_ret
        refine ⟨⟨_, rfl, .inr ⟨h3, ?_⟩⟩, hb⟩
        have := he.out; rw [hd.out] at this; simp only [Hid, sumBulk] at *; omega
end Go.Proofs.YtgpmmmfnbphgdaaDoor
