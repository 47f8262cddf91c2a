/- The laws' helpers on place entries. -/
import Derived.Test.YtadmeijogbljhaaSz
import Derived.Test.YtadmeijogbljhaaTo
import Derived.Test.YtadmeijogbljhaaEq
namespace Go.Proofs.Ytadmeijogbljhaa
open Go.RowKit
set_option linter.unusedVariables false
set_option linter.unusedSimpArgs false
set_option maxHeartbeats 400000
theorem info_PlaceEntry : (Try.prog.info? 160).map (fun i => (i.zero, i.size, i.bytes)) = some (some (.agg #[.int .i64 0, .int .i64 0, .int .i64 0]), 3, 24) := by kernel_rfl
theorem size_PlaceEntry : (Try.prog.info? 160).map (·.size) = some 3 := by kernel_rfl
def zeroPlaceEntry : List Value := [.int .i64 0, .int .i64 0, .int .i64 0]
theorem toPlaceEntry_c (ch : Int) (key : Int) (pl : Int) (w : World) : Calls Try.prog 182 #[vPlaceEntry ch key pl] w fun e w' => e = .returned (vPlaceEntry ch key pl) ∧ Below w.heap.size w w' := by
  go_enter Try.func182, Try.ntmps182
  go_wp2
  exact bodyPost_ret (v := vPlaceEntry ch key pl) (by simp [results, Try.results182, go_sem]) rfl ⟨rfl, bAlloc (bAlloc (bAlloc (Below.refl _ _) _) _) _⟩

theorem toPlaceEntryS_c (A : Option Addr) (n c : Nat) (l : List PlaceEntry) (w : World) (hn : n ≤ 1048576) (hr : RowE w A n l) :
    Calls Try.prog 130 #[.slice A n c] w fun e w' => ∃ A' c', e = .returned (.slice A' n c') ∧ Own w' w.heap.size 160 3 A' n c' (l.map PlaceEntry.cells) ∧ Below w.heap.size w w' := by
  obtain ⟨i0, hi, hz0, hz1, hz2⟩ := info_parts info_PlaceEntry
  go_enter Try.func130, Try.ntmps130
  go_wp2_with (refine wpList_make rfl (.tmp 6) (.tmp 6) _ rfl w.heap.size 160 3 24 i0 _ Try.underlying89 hi hz0 hz1 hz2 .i64 .i64 n rfl rfl zeroPlaceEntry rfl rfl (by omega) (by omega) (by simp only [maxLen]; omega) (Nat.le_refl _) ?_; intro w1 hown1 hg1)
  have hb1 := bGrown (Below.refl _ _) hg1 (by simp)
  rw [← Fill.zero PlaceEntry.cells zeroPlaceEntry l n] at hown1
  go_loopw [4, 20] (fun i t wr => ∃ (k : Nat), k ≤ n ∧ i = .int .i64 k ∧ Own wr w.heap.size 160 3 (some ⟨w.heap.size, 0, none⟩) n n (Fill PlaceEntry.cells zeroPlaceEntry l k n) ∧ Below w.heap.size w wr) (fun i _ _ => n - (intOf i).toNat)
  case atStart => exact ⟨0, by omega, rfl, hown1, hb1⟩
  case round =>
    obtain ⟨k, hk, rfl, hown, hb⟩ := hrel
    by_cases hlt : k < n
    · obtain ⟨f, g, off, hf, rfl, g0, g1, g2⟩ := RowE.at_ (hr.below hb) hlt
      go_wp2_with fail
      refine (toPlaceEntry_c _ _ _ _).mono ?_
      rintro e w2 ⟨rfl, hb2⟩
      have hown2 := hown.below hb2
      go_wp2_with (refine wpList_store_elem rfl _ (.tmp 21) (.tmp 20) rfl w.heap.size 160 3 n n w.heap.size k _ rfl _ rfl _ f.cells rfl rfl rfl (one_of rfl) size_PlaceEntry hown2 hlt ?_; intro w3 hown3 hg3)
      rw [Fill.set_ _ _ hf hr.len] at hown3
      go_roundw
      case rel => exact ⟨k + 1, by omega, by go_num, hown3, bGrown (bTrans hb hb2) hg3 (by simp)⟩
      case measure => simp [intOf]; omega
    · rw [Fill.full _ _ hr.len hlt] at hown
      go_wp2
      go_ret
      exact ⟨_, _, rfl, hown, hb⟩

theorem eqPlaceEntry_c (ch : Int) (key : Int) (pl : Int) (w : World) :
    Calls Try.prog 183 #[vPlaceEntry ch key pl, vPlaceEntry ch key pl] w fun e w' => e = rBool true ∧ Below w.heap.size w w' := by
  go_enter Try.func183, Try.ntmps183
  go_wp2
  go_ret
  exact ⟨rfl, by repeat (first | exact Below.refl _ _ | refine bAlloc ?_ _)⟩

theorem eqPlaceEntryS_c (A A2 : Option Addr) (n c c2 : Nat) (l : List PlaceEntry) (w : World) (hn : n ≤ 1048576) (hr : RowE w A n l) (hr2 : RowE w A2 n l) :
    Calls Try.prog 132 #[.slice A n c, .slice A2 n c2] w fun e w' => e = rBool true ∧ Below w.heap.size w w' := by
  go_enter Try.func132, Try.ntmps132
  go_wp2
  go_loopw [5, 25] (fun i t wr => ∃ (k : Nat), k ≤ n ∧ i = .int .i64 k ∧ Below w.heap.size w wr) (fun i _ _ => n - (intOf i).toNat)
  case atStart => exact ⟨0, by omega, rfl, Below.refl _ _⟩
  case round =>
    obtain ⟨k, hk, rfl, hb⟩ := hrel
    by_cases hlt : k < n
    · obtain ⟨f, g, off, hf, rfl, g0, g1, g2⟩ := RowE.at_ (hr.below hb) hlt
      obtain ⟨f2, g', off', hf2, rfl, k0, k1, k2⟩ := RowE.at_ (hr2.below hb) hlt
      obtain rfl : f = f2 := Option.some.inj (hf.out.symm.trans hf2.out)
      have h0 : (0 : Int) ≤ (k : Int) := by omega
      have h1 : (k : Int) < (n : Int) := by omega
      go_wp2_with fail
      go_region_held3 (fun w' => w'.cell? ⟨g, off + k * 3, none⟩ = some (.int .i64 f.chunk) ∧ w'.cell? ⟨g, off + k * 3 + 1, none⟩ = some (.int .i64 f.key) ∧ w'.cell? ⟨g, off + k * 3 + 2, none⟩ = some (.int .i64 f.place) ∧ w'.cell? ⟨g', off' + k * 3, none⟩ = some (.int .i64 f.chunk) ∧ w'.cell? ⟨g', off' + k * 3 + 1, none⟩ = some (.int .i64 f.key) ∧ w'.cell? ⟨g', off' + k * 3 + 2, none⟩ = some (.int .i64 f.place))
        (first | go_keep | ((repeat' apply And.intro) <;> exact bCell hb1 (by assumption))) ((go_at_call 183; refine (eqPlaceEntry_c _ _ _ _).mono ?_; rintro e w1 ⟨rfl, hb1⟩))
      go_wp2
      go_roundw
      case rel => exact ⟨k + 1, by omega, by go_num, bTrans (bDrew hb) hb1⟩
      case measure => simp [intOf]; omega
    · go_wp2
      go_ret
      exact ⟨rfl, hb⟩

theorem szPlaceEntryS_c (A : Option Addr) (n c : Nat) (l : List PlaceEntry) (left : Int) (w : World) (h1 : 0 ≤ left) (h2 : left ≤ 1048576) (hn : n ≤ maxLen) (hr : RowE w A n l) (hs : ∀ f ∈ l, True) :
    Calls Try.prog 129 #[.slice A n c, .int .i64 left] w fun e w' => SzPost left (n + sumBulk (fun _ : PlaceEntry => 0) l) e ∧ Below w.heap.size w w' := by
  have e0 : sumBulk (fun _ : PlaceEntry => 0) l = 0 := by
    clear hr hs
    induction l with
    | nil => rfl
    | cons x l ih => simp [sumBulk, ih]
  rw [e0]
  unfold maxLen at hn
  clear e0
  go_enter Try.func129, Try.ntmps129
  go_wp2
  · go_ret
    exact ⟨⟨_, rfl, .inl rfl⟩, Below.refl _ _⟩
  · go_ret
    exact ⟨⟨_, rfl, .inr ⟨by omega, by unfold Hid; omega⟩⟩, Below.refl _ _⟩
end Go.Proofs.Ytadmeijogbljhaa
