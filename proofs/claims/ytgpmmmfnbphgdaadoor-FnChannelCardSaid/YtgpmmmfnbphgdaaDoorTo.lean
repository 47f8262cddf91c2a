/- The laws' own copies: what they make reads as what they were handed, in new memory. -/
import Derived.Test.YtgpmmmfnbphgdaaDoorOwn
import Derived.Test.YtgpmmmfnbphgdaaDoorProg
namespace Go.Proofs.YtgpmmmfnbphgdaaDoor
open Go.RowKit
set_option linter.unusedVariables false
set_option linter.unusedSimpArgs false
set_option maxHeartbeats 400000

-- infos
theorem info_Factor : (Tryd.prog.info? 52).map (fun i => (i.zero, i.size, i.bytes)) = some (some (.agg #[.int .i64 0, .int .i64 0, .string ByteArray.empty, .string ByteArray.empty, .int .i64 0, .int .i64 0, .int .i64 0, .int .i64 0]), 8, 80) := by kernel_rfl
theorem size_Factor : (Tryd.prog.info? 52).map (·.size) = some 8 := by kernel_rfl
def zeroFactor : List Value := [.int .i64 0, .int .i64 0, .string ByteArray.empty, .string ByteArray.empty, .int .i64 0, .int .i64 0, .int .i64 0, .int .i64 0]
theorem info_Packet : (Tryd.prog.info? 144).map (fun i => (i.zero, i.size, i.bytes)) = some (some (.agg #[.bool false, .int .i64 0, .string ByteArray.empty, .int .i64 0]), 4, 40) := by kernel_rfl
theorem size_Packet : (Tryd.prog.info? 144).map (·.size) = some 4 := by kernel_rfl
def zeroPacket : List Value := [.bool false, .int .i64 0, .string ByteArray.empty, .int .i64 0]
theorem info_String : (Tryd.prog.info? 9).map (fun i => (i.zero, i.size, i.bytes)) = some (some (.string ByteArray.empty), 1, 16) := by kernel_rfl
theorem size_String : (Tryd.prog.info? 9).map (·.size) = some 1 := by kernel_rfl
theorem toPose_c (t x y : Int) (w : World) : Calls Tryd.prog 158 #[vPose t x y] w fun e w' => e = .returned (vPose t x y) ∧
    ((w.alloc (.cells #[.int .i64 t, .int .i64 x, .int .i64 y] 91)).alloc (.cells #[.int .i64 t, .int .i64 x, .int .i64 y] 50)).alloc (.cells #[.int .i64 t, .int .i64 x, .int .i64 y] 50) = w' := by
  go_enter Tryd.func158, Tryd.ntmps158
  go_wp2
  exact bodyPost_ret (v := vPose t x y) (by simp [results, Tryd.results158, go_sem]) rfl ⟨rfl, rfl⟩

theorem toFactor_x (id kind : Int) (fr to : ByteArray) (t x y wt : Int) (w : World) :
    Calls Tryd.prog 117 #[vFactor id kind fr to t x y wt] w fun e w' => e = .returned (vFactor id kind fr to t x y wt) ∧
      (((((w.alloc (.cells #[.int .i64 id, .int .i64 kind, .string fr, .string to, .int .i64 t, .int .i64 x, .int .i64 y, .int .i64 wt] 93)).alloc (.cells #[.int .i64 id, .int .i64 kind, .string fr, .string to, .int .i64 t, .int .i64 x, .int .i64 y, .int .i64 wt] 52)).alloc (.cells #[.int .i64 id, .int .i64 kind, .string fr, .string to, .int .i64 t, .int .i64 x, .int .i64 y, .int .i64 wt] 52)).alloc (.cells #[.int .i64 t, .int .i64 x, .int .i64 y] 91)).alloc (.cells #[.int .i64 t, .int .i64 x, .int .i64 y] 50)).alloc (.cells #[.int .i64 t, .int .i64 x, .int .i64 y] 50) = w' := by
  go_enter Tryd.func117, Tryd.ntmps117
  go_wp2_with (go_at_call 158; refine (toPose_c _ _ _ _).mono ?_; rintro e w1 ⟨rfl, rfl⟩)
  exact bodyPost_ret (v := vFactor id kind fr to t x y wt) (by simp [results, Tryd.results117, go_sem]) rfl ⟨rfl, rfl⟩
theorem toFactor_c (id kind : Int) (fr to : ByteArray) (t x y wt : Int) (w : World) :
    Calls Tryd.prog 117 #[vFactor id kind fr to t x y wt] w fun e w' => e = .returned (vFactor id kind fr to t x y wt) ∧ Below w.heap.size w w' :=
  (toFactor_x id kind fr to t x y wt w).mono fun e w' ⟨h1, h2⟩ => ⟨h1, by rw [← h2]; exact bAlloc (bAlloc (bAlloc (bAlloc (bAlloc (bAlloc (Below.refl _ _) _) _) _) _) _) _⟩


theorem toPacket_c (ack : Bool) (num : Int) (tx : ByteArray) (sum : Int) (w : World) : Calls Tryd.prog 133 #[vPacket ack num tx sum] w fun e w' => e = .returned (vPacket ack num tx sum) ∧ Below w.heap.size w w' := by
  go_enter Tryd.func133, Tryd.ntmps133
  go_wp2
  exact bodyPost_ret (v := vPacket ack num tx sum) (by simp [results, Tryd.results133, go_sem]) rfl ⟨rfl, bAlloc (bAlloc (bAlloc (Below.refl _ _) _) _) _⟩

theorem toPacketS_c (A : Option Addr) (n c : Nat) (l : List Packet) (w : World) (hn : n ≤ 1048576) (hr : RowK w A n l) :
    Calls Tryd.prog 77 #[.slice A n c] w fun e w' => ∃ A' c', e = .returned (.slice A' n c') ∧ Own w' w.heap.size 144 4 A' n c' (l.map Packet.cells) ∧ Below w.heap.size w w' := by
  obtain ⟨i0, hi, hz0, hz1, hz2⟩ := info_parts info_Packet
  go_enter Tryd.func77, Tryd.ntmps77
  go_wp2_with (refine wpList_make rfl (.tmp 6) (.tmp 6) _ rfl w.heap.size 144 4 40 i0 _ Tryd.underlying24 hi hz0 hz1 hz2 .i64 .i64 n rfl rfl zeroPacket rfl rfl (by omega) (by omega) (by simp only [maxLen]; omega) (Nat.le_refl _) ?_; intro w1 hown1 hg1)
  have hb1 := bGrown (Below.refl _ _) hg1 (by simp)
  rw [← Fill.zero Packet.cells zeroPacket l n] at hown1
  go_loopw [4, 20] (fun i t wr => ∃ (k : Nat), k ≤ n ∧ i = .int .i64 k ∧ Own wr w.heap.size 144 4 (some ⟨w.heap.size, 0, none⟩) n n (Fill Packet.cells zeroPacket l k n) ∧ Below w.heap.size w wr) (fun i _ _ => n - (intOf i).toNat)
  case atStart => exact ⟨0, by omega, rfl, hown1, hb1⟩
  case round =>
    obtain ⟨k, hk, rfl, hown, hb⟩ := hrel
    by_cases hlt : k < n
    · obtain ⟨f, g, off, hf, rfl, g0, g1, g2, g3⟩ := RowK.at_ (hr.below hb) hlt
      go_wp2_with fail
      refine (toPacket_c _ _ _ _ _).mono ?_
      rintro e w2 ⟨rfl, hb2⟩
      have hown2 := hown.below hb2
      go_wp2_with (refine wpList_store_elem rfl _ (.tmp 21) (.tmp 20) rfl w.heap.size 144 4 n n w.heap.size k _ rfl _ rfl _ f.cells rfl rfl rfl (one_of rfl) size_Packet hown2 hlt ?_; intro w3 hown3 hg3)
      rw [Fill.set_ _ _ hf hr.len] at hown3
      go_roundw
      case rel => exact ⟨k + 1, by omega, by go_num, hown3, bGrown (bTrans hb hb2) hg3 (by simp)⟩
      case measure => simp [intOf]; omega
    · rw [Fill.full _ _ hr.len hlt] at hown
      go_wp2
      go_ret
      exact ⟨_, _, rfl, hown, hb⟩

theorem toStringS_c (A : Option Addr) (n c : Nat) (l : List ByteArray) (w : World) (hn : n ≤ 1048576) (hr : RowS w A n l) :
    Calls Tryd.prog 76 #[.slice A n c] w fun e w' => ∃ A' c', e = .returned (.slice A' n c') ∧ Own w' w.heap.size 9 1 A' n c' (l.map strCells) ∧ Below w.heap.size w w' := by
  obtain ⟨i0, hi, hz0, hz1, hz2⟩ := info_parts info_String
  go_enter Tryd.func76, Tryd.ntmps76
  go_wp2_with (refine wpList_make rfl (.tmp 6) (.tmp 6) _ rfl w.heap.size 9 1 16 i0 _ Tryd.underlying23 hi hz0 hz1 hz2 .i64 .i64 n rfl rfl (strCells ByteArray.empty) rfl rfl (by omega) (by omega) (by simp only [maxLen]; omega) (Nat.le_refl _) ?_; intro w1 hown1 hg1)
  have hb1 := bGrown (Below.refl _ _) hg1 (by simp)
  rw [← Fill.zero strCells (strCells ByteArray.empty) l n] at hown1
  go_loopw [4] (fun i wr => ∃ (k : Nat), k ≤ n ∧ i = .int .i64 k ∧ Own wr w.heap.size 9 1 (some ⟨w.heap.size, 0, none⟩) n n (Fill strCells (strCells ByteArray.empty) l k n) ∧ Below w.heap.size w wr) (fun i _ => n - (intOf i).toNat)
  case atStart => exact ⟨0, by omega, rfl, hown1, hb1⟩
  case round =>
    obtain ⟨k, hk, rfl, hown, hb⟩ := hrel
    by_cases hlt : k < n
    · obtain ⟨f, g, off, hf, rfl, g0⟩ := RowS.at_ (hr.below hb) hlt
      go_wp2_with (refine wpList_store_elem rfl _ (.tmp 20) (.tmp 19) rfl w.heap.size 9 1 n n w.heap.size k k (by omega) _ rfl _ (strCells f) rfl rfl rfl (one_of rfl) size_String hown hlt ?_; intro w3 hown3 hg3)
      rw [Fill.set_ _ _ hf hr.len] at hown3
      go_roundw
      case rel => exact ⟨k + 1, by omega, by go_num, hown3, bGrown hb hg3 (by simp)⟩
      case measure => simp [intOf]; omega
    · rw [Fill.full _ _ hr.len hlt] at hown
      go_wp2
      go_ret
      exact ⟨_, _, rfl, hown, hb⟩
end Go.Proofs.YtgpmmmfnbphgdaaDoor
