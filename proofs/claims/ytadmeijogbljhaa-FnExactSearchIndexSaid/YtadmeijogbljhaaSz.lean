/- The laws' screens on size: what they answer. -/
import Derived.Test.YtadmeijogbljhaaOwn
import Derived.Test.YtadmeijogbljhaaProg
namespace Go.Proofs.Ytadmeijogbljhaa
open Go.RowKit
set_option linter.unusedVariables false
set_option linter.unusedSimpArgs false
set_option maxHeartbeats 400000

theorem szFactor_c (id : Int) (kind : Int) (fr : ByteArray) (to : ByteArray) (t : Int) (x : Int) (y : Int) (wt : Int) (left : Int) (w : World) (h1 : 0 ≤ left) (h2 : left ≤ 1048576) (h_fr : fr.size ≤ maxLen) (h_to : to.size ≤ maxLen) :
    Calls Try.prog 111 #[vFactor id kind fr to t x y wt, .int .i64 left] w fun e w' => SzPost left (fr.size + to.size) e ∧ Below w.heap.size w w' := by
  unfold maxLen at h_fr h_to
  go_enter Try.func111, Try.ntmps111
  go_wp2
  all_goals (go_ret; exact ⟨⟨_, rfl, by unfold Hid; omega⟩, bAlloc (Below.refl _ _) _⟩)

theorem szFactorS_c (A : Option Addr) (n c : Nat) (l : List Factor) (left : Int) (w : World) (h1 : 0 ≤ left) (h2 : left ≤ 1048576) (hn : n ≤ maxLen) (hr : RowF w A n l) (hs : ∀ f ∈ l, f.frm.size ≤ maxLen ∧ f.to.size ≤ maxLen) :
    Calls Try.prog 42 #[.slice A n c, .int .i64 left] w fun e w' => SzPost left (n + sumBulk Factor.bulk l) e ∧ Below w.heap.size w w' := by
  unfold maxLen at hn
  go_enter Try.func42, Try.ntmps42
  go_wp2
  · go_ret
    exact ⟨⟨_, rfl, .inl rfl⟩, Below.refl _ _⟩
  · go_loopw [1,5,23] (fun le i t wr => ∃ (k : Nat) (lf : Int), k ≤ n ∧ i = .int .i64 k ∧ le = .int .i64 lf ∧ 0 ≤ lf ∧ lf ≤ 1048576 ∧ Hid (lf + (sumBulk Factor.bulk l : Int) = left - n + (sumBulk Factor.bulk (l.drop k) : Int)) ∧ Below w.heap.size w wr) (fun _ i _ _ => n - (intOf i).toNat)
    case atStart => exact ⟨0, left - n, by omega, rfl, by go_num, by omega, by omega, by simp [Hid], Below.refl _ _⟩
    case round =>
      obtain ⟨k, lf, hk, rfl, rfl, h3, h4, he, hb⟩ := hrel
      by_cases hlt : k < n
      · obtain ⟨f, g, off, hf, rfl, g0, g1, g2, g3, g4, g5, g6, g7⟩ := RowF.at_ (hr.below hb) hlt
        have hd := Lib.hid (drop_at hf)
        have hm := Lib.hid (hs f (List.mem_of_getElem? hf.out))
        go_wp2_with (go_at_call 111; refine (szFactor_c _ _ _ _ _ _ _ _ _ _ h3 h4 hm.out.1 hm.out.2).mono ?_; rintro e w1 ⟨⟨r, rfl, hp⟩, hb1⟩; rcases hp with rfl | ⟨hp0, hp1⟩)
        · go_ret
          exact ⟨⟨_, rfl, .inl rfl⟩, bTrans hb hb1⟩
        · have hp2 : r ≤ 1048576 := by have := hp1.out; omega
          have hp1' := hp1
          clear hp1
          go_wp2
          go_roundw
          case rel => exact ⟨k + 1, r, by omega, by go_num, rfl, hp0, hp2, by have := he.out; have := hp1'.out; rw [hd.out] at *; simp only [Hid, sumBulk, Factor.bulk] at *; omega, bTrans hb hb1⟩
          case measure => simp [intOf]; omega
      · have hd := Lib.hid (drop_end hr.len hlt)
        go_wp2
        go_ret
        refine ⟨⟨_, rfl, .inr ⟨h3, ?_⟩⟩, hb⟩
        have := he.out; rw [hd.out] at this; simp only [Hid, sumBulk] at *; omega

theorem szPlace_c (nm : ByteArray) (bits : Int) (left : Int) (w : World) (h1 : 0 ≤ left) (h2 : left ≤ 1048576) (h_nm : nm.size ≤ maxLen) :
    Calls Try.prog 108 #[vPlace nm bits, .int .i64 left] w fun e w' => SzPost left (nm.size) e ∧ Below w.heap.size w w' := by
  unfold maxLen at h_nm
  go_enter Try.func108, Try.ntmps108
  go_wp2
  all_goals (go_ret; exact ⟨⟨_, rfl, by unfold Hid; omega⟩, bAlloc (Below.refl _ _) _⟩)

theorem szPlaceS_c (A : Option Addr) (n c : Nat) (l : List Place) (left : Int) (w : World) (h1 : 0 ≤ left) (h2 : left ≤ 1048576) (hn : n ≤ maxLen) (hr : RowP w A n l) (hs : ∀ f ∈ l, f.name.size ≤ maxLen) :
    Calls Try.prog 37 #[.slice A n c, .int .i64 left] w fun e w' => SzPost left (n + sumBulk Place.bulk l) e ∧ Below w.heap.size w w' := by
  unfold maxLen at hn
  go_enter Try.func37, Try.ntmps37
  go_wp2
  · go_ret
    exact ⟨⟨_, rfl, .inl rfl⟩, Below.refl _ _⟩
  · go_loopw [1,5,23] (fun le i t wr => ∃ (k : Nat) (lf : Int), k ≤ n ∧ i = .int .i64 k ∧ le = .int .i64 lf ∧ 0 ≤ lf ∧ lf ≤ 1048576 ∧ Hid (lf + (sumBulk Place.bulk l : Int) = left - n + (sumBulk Place.bulk (l.drop k) : Int)) ∧ Below w.heap.size w wr) (fun _ i _ _ => n - (intOf i).toNat)
    case atStart => exact ⟨0, left - n, by omega, rfl, by go_num, by omega, by omega, by simp [Hid], Below.refl _ _⟩
    case round =>
      obtain ⟨k, lf, hk, rfl, rfl, h3, h4, he, hb⟩ := hrel
      by_cases hlt : k < n
      · obtain ⟨f, g, off, hf, rfl, g0, g1⟩ := RowP.at_ (hr.below hb) hlt
        have hd := Lib.hid (drop_at hf)
        have hm := Lib.hid (hs f (List.mem_of_getElem? hf.out))
        go_wp2_with (go_at_call 108; refine (szPlace_c _ _ _ _ h3 h4 hm.out).mono ?_; rintro e w1 ⟨⟨r, rfl, hp⟩, hb1⟩; rcases hp with rfl | ⟨hp0, hp1⟩)
        · go_ret
          exact ⟨⟨_, rfl, .inl rfl⟩, bTrans hb hb1⟩
        · have hp2 : r ≤ 1048576 := by have := hp1.out; omega
          have hp1' := hp1
          clear hp1
          go_wp2
          go_roundw
          case rel => exact ⟨k + 1, r, by omega, by go_num, rfl, hp0, hp2, by have := he.out; have := hp1'.out; rw [hd.out] at *; simp only [Hid, sumBulk, Place.bulk] at *; omega, bTrans hb hb1⟩
          case measure => simp [intOf]; omega
      · have hd := Lib.hid (drop_end hr.len hlt)
        go_wp2
        go_ret
        refine ⟨⟨_, rfl, .inr ⟨h3, ?_⟩⟩, hb⟩
        have := he.out; rw [hd.out] at this; simp only [Hid, sumBulk] at *; omega

theorem szPacket_c (ack : Bool) (num : Int) (tx : ByteArray) (sum : Int) (left : Int) (w : World) (h1 : 0 ≤ left) (h2 : left ≤ 1048576) (h_tx : tx.size ≤ maxLen) :
    Calls Try.prog 157 #[vPacket ack num tx sum, .int .i64 left] w fun e w' => SzPost left (tx.size) e ∧ Below w.heap.size w w' := by
  unfold maxLen at h_tx
  go_enter Try.func157, Try.ntmps157
  go_wp2
  all_goals (go_ret; exact ⟨⟨_, rfl, by unfold Hid; omega⟩, bAlloc (Below.refl _ _) _⟩)

theorem szPacketS_c (A : Option Addr) (n c : Nat) (l : List Packet) (left : Int) (w : World) (h1 : 0 ≤ left) (h2 : left ≤ 1048576) (hn : n ≤ maxLen) (hr : RowK w A n l) (hs : ∀ f ∈ l, f.text.size ≤ maxLen) :
    Calls Try.prog 89 #[.slice A n c, .int .i64 left] w fun e w' => SzPost left (n + sumBulk Packet.bulk l) e ∧ Below w.heap.size w w' := by
  unfold maxLen at hn
  go_enter Try.func89, Try.ntmps89
  go_wp2
  · go_ret
    exact ⟨⟨_, rfl, .inl rfl⟩, Below.refl _ _⟩
  · go_loopw [1,5,23] (fun le i t wr => ∃ (k : Nat) (lf : Int), k ≤ n ∧ i = .int .i64 k ∧ le = .int .i64 lf ∧ 0 ≤ lf ∧ lf ≤ 1048576 ∧ Hid (lf + (sumBulk Packet.bulk l : Int) = left - n + (sumBulk Packet.bulk (l.drop k) : Int)) ∧ Below w.heap.size w wr) (fun _ i _ _ => n - (intOf i).toNat)
    case atStart => exact ⟨0, left - n, by omega, rfl, by go_num, by omega, by omega, by simp [Hid], Below.refl _ _⟩
    case round =>
      obtain ⟨k, lf, hk, rfl, rfl, h3, h4, he, hb⟩ := hrel
      by_cases hlt : k < n
      · obtain ⟨f, g, off, hf, rfl, g0, g1, g2, g3⟩ := RowK.at_ (hr.below hb) hlt
        have hd := Lib.hid (drop_at hf)
        have hm := Lib.hid (hs f (List.mem_of_getElem? hf.out))
        go_wp2_with (go_at_call 157; refine (szPacket_c _ _ _ _ _ _ h3 h4 hm.out).mono ?_; rintro e w1 ⟨⟨r, rfl, hp⟩, hb1⟩; rcases hp with rfl | ⟨hp0, hp1⟩)
        · go_ret
          exact ⟨⟨_, rfl, .inl rfl⟩, bTrans hb hb1⟩
        · have hp2 : r ≤ 1048576 := by have := hp1.out; omega
          have hp1' := hp1
          clear hp1
          go_wp2
          go_roundw
          case rel => exact ⟨k + 1, r, by omega, by go_num, rfl, hp0, hp2, by have := he.out; have := hp1'.out; rw [hd.out] at *; simp only [Hid, sumBulk, Packet.bulk] at *; omega, bTrans hb hb1⟩
          case measure => simp [intOf]; omega
      · have hd := Lib.hid (drop_end hr.len hlt)
        go_wp2
        go_ret
        refine ⟨⟨_, rfl, .inr ⟨h3, ?_⟩⟩, hb⟩
        have := he.out; rw [hd.out] at this; simp only [Hid, sumBulk] at *; omega

theorem szStringS_c (A : Option Addr) (n c : Nat) (l : List ByteArray) (left : Int) (w : World) (h1 : 0 ≤ left) (h2 : left ≤ 1048576) (hn : n ≤ maxLen) (hr : RowS w A n l) (hs : ∀ f ∈ l, f.size ≤ maxLen) :
    Calls Try.prog 88 #[.slice A n c, .int .i64 left] w fun e w' => SzPost left (n + sumBulk ByteArray.size l) e ∧ Below w.heap.size w w' := by
  unfold maxLen at hn
  go_enter Try.func88, Try.ntmps88
  go_wp2
  · go_ret
    exact ⟨⟨_, rfl, .inl rfl⟩, Below.refl _ _⟩
  · go_loopw [1,5] (fun le i wr => ∃ (k : Nat) (lf : Int), k ≤ n ∧ i = .int .i64 k ∧ le = .int .i64 lf ∧ 0 ≤ lf ∧ lf ≤ 1048576 ∧ Hid (lf + (sumBulk ByteArray.size l : Int) = left - n + (sumBulk ByteArray.size (l.drop k) : Int)) ∧ Below w.heap.size w wr) (fun _ i _ => n - (intOf i).toNat)
    case atStart => exact ⟨0, left - n, by omega, rfl, by go_num, by omega, by omega, by simp [Hid], Below.refl _ _⟩
    case round =>
      obtain ⟨k, lf, hk, rfl, rfl, h3, h4, he, hb⟩ := hrel
      by_cases hlt : k < n
      · obtain ⟨f, g, off, hf, rfl, g0⟩ := RowS.at_ (hr.below hb) hlt
        have hd := Lib.hid (drop_at hf)
        have hm := hs f (List.mem_of_getElem? hf.out)
        unfold maxLen at hm
        go_wp2
        · go_ret
          exact ⟨⟨_, rfl, .inl rfl⟩, hb⟩
        · go_roundw
          case rel => exact ⟨k + 1, lf - f.size, by omega, by go_num, rfl, by omega, by omega, by have := he.out; rw [hd.out] at this; simp only [Hid, sumBulk] at *; omega, hb⟩
          case measure => simp [intOf]; omega
      · have hd := Lib.hid (drop_end hr.len hlt)
        go_wp2
        go_ret
        refine ⟨⟨_, rfl, .inr ⟨h3, ?_⟩⟩, hb⟩
        have := he.out; rw [hd.out] at this; simp only [Hid, sumBulk] at *; omega
end Go.Proofs.Ytadmeijogbljhaa
