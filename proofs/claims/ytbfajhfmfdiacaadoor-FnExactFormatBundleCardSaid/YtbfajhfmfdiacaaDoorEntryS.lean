/- The laws' helpers on slices of entries. -/
import Derived.Test.YtbfajhfmfdiacaaDoorEntry
import Derived.Test.YtbfajhfmfdiacaaDoorEq
namespace Go.Proofs.YtbfajhfmfdiacaaDoor
open Go.RowKit
set_option linter.unusedVariables false
set_option linter.unusedSimpArgs false
set_option maxHeartbeats 1000000
def Entry.cells (f : Entry) : List Value := .bool f.remove :: .int .i64 f.id :: f.factor.cells
def Entry.bulk (f : Entry) : Nat := f.factor.bulk
abbrev RowN (w : World) (A : Option Addr) (n : Nat) (l : List Entry) : Prop := Row w A n 10 (l.map Entry.cells)
theorem RowN.at_ {w : World} {A : Option Addr} {n : Nat} {l : List Entry} (h : RowN w A n l) {k : Nat} (hk : k < n) :
    ∃ (f : Entry) (g off : Nat), Hid (l[k]? = some f) ∧ A = some ⟨g, off, none⟩ ∧ w.cell? ⟨g, off + k * 10, none⟩ = some (.bool f.remove) ∧ w.cell? ⟨g, off + k * 10 + 1, none⟩ = some (.int .i64 f.id) ∧ w.cell? ⟨g, off + k * 10 + 2, none⟩ = some (.int .i64 f.factor.id) ∧ w.cell? ⟨g, off + k * 10 + 3, none⟩ = some (.int .i64 f.factor.kind) ∧ w.cell? ⟨g, off + k * 10 + 4, none⟩ = some (.string f.factor.frm) ∧ w.cell? ⟨g, off + k * 10 + 5, none⟩ = some (.string f.factor.to) ∧
      w.cell? ⟨g, off + k * 10 + 6, none⟩ = some (.int .i64 f.factor.pose.turn) ∧ w.cell? ⟨g, off + k * 10 + 7, none⟩ = some (.int .i64 f.factor.pose.x) ∧ w.cell? ⟨g, off + k * 10 + 8, none⟩ = some (.int .i64 f.factor.pose.y) ∧ w.cell? ⟨g, off + k * 10 + 9, none⟩ = some (.int .i64 f.factor.weight) := by
  obtain ⟨f, g, off, hf, hA, hc⟩ := Row.at_ h hk
  exact ⟨f, g, off, hf, hA, hc 0 _ rfl, hc 1 _ rfl, hc 2 _ rfl, hc 3 _ rfl, hc 4 _ rfl, hc 5 _ rfl, hc 6 _ rfl, hc 7 _ rfl, hc 8 _ rfl, hc 9 _ rfl⟩
theorem szEntryS_c (A : Option Addr) (n c : Nat) (l : List Entry) (left : Int) (w : World) (h1 : 0 ≤ left) (h2 : left ≤ 1048576) (hn : n ≤ maxLen) (hr : RowN w A n l) (hs : ∀ f ∈ l, f.factor.frm.size ≤ maxLen ∧ f.factor.to.size ≤ maxLen) :
    Calls Tryd.prog 39 #[.slice A n c, .int .i64 left] w fun e w' => SzPost left (n + sumBulk Entry.bulk l) e ∧ Below w.heap.size w w' := by
  unfold maxLen at hn
  go_enter Tryd.func39, Tryd.ntmps39
  go_wp2
  · go_ret
    exact ⟨⟨_, rfl, .inl rfl⟩, Below.refl _ _⟩
  · go_loopw [1,5,23] (fun le i t wr => ∃ (k : Nat) (lf : Int), k ≤ n ∧ i = .int .i64 k ∧ le = .int .i64 lf ∧ 0 ≤ lf ∧ lf ≤ 1048576 ∧ Hid (lf + (sumBulk Entry.bulk l : Int) = left - n + (sumBulk Entry.bulk (l.drop k) : Int)) ∧ Below w.heap.size w wr) (fun _ i _ _ => n - (intOf i).toNat)
    case atStart => exact ⟨0, left - n, by omega, rfl, by go_num, by omega, by omega, by simp [Hid], Below.refl _ _⟩
    case round =>
      obtain ⟨k, lf, hk, rfl, rfl, h3, h4, he, hb⟩ := hrel
      by_cases hlt : k < n
      · obtain ⟨f, g, off, hf, rfl, g0, g1, g2, g3, g4, g5, g6, g7, g8, g9⟩ := RowN.at_ (hr.below hb) hlt
        have hd := Lib.hid (drop_at hf)
        have hm := Lib.hid (hs f (List.mem_of_getElem? hf.out))
        go_wp2_with (go_at_call 25; refine (szEntry_c _ _ _ _ _ _ _ _ _ _ _ _ h3 h4 hm.out.1 hm.out.2).mono ?_; rintro e w1 ⟨⟨r, rfl, hp⟩, hb1⟩; rcases hp with rfl | ⟨hp0, hp1⟩)
        · go_ret
          exact ⟨⟨_, rfl, .inl rfl⟩, bTrans hb hb1⟩
        · have hp2 : r ≤ 1048576 := by have := hp1.out; omega
          have hp1' := hp1
          clear hp1
          go_wp2
          go_roundw
          case rel => exact ⟨k + 1, r, by omega, by go_num, rfl, hp0, hp2, by have := he.out; have := hp1'.out; rw [hd.out] at *; simp only [Hid, sumBulk, Entry.bulk, Factor.bulk] at *; omega, bTrans hb hb1⟩
          case measure => simp [intOf]; omega
      · have hd := Lib.hid (drop_end hr.len hlt)
        go_wp2
        go_ret
        refine ⟨⟨_, rfl, .inr ⟨h3, ?_⟩⟩, hb⟩
        have := he.out; rw [hd.out] at this; simp only [Hid, sumBulk] at *; omega
theorem info_Entry : (Tryd.prog.info? 59).map (fun i => (i.zero, i.size, i.bytes)) = some (some (.agg #[.bool false, .int .i64 0, .int .i64 0, .int .i64 0, .string ByteArray.empty, .string ByteArray.empty, .int .i64 0, .int .i64 0, .int .i64 0, .int .i64 0]), 10, 96) := by kernel_rfl
theorem size_Entry : (Tryd.prog.info? 59).map (·.size) = some 10 := by kernel_rfl
def zeroEntry : List Value := [.bool false, .int .i64 0, .int .i64 0, .int .i64 0, .string ByteArray.empty, .string ByteArray.empty, .int .i64 0, .int .i64 0, .int .i64 0, .int .i64 0]
theorem toEntryS_c (A : Option Addr) (n c : Nat) (l : List Entry) (w : World) (hn : n ≤ 1048576) (hr : RowN w A n l) :
    Calls Tryd.prog 41 #[.slice A n c] w fun e w' => ∃ A' c', e = .returned (.slice A' n c') ∧ Own w' w.heap.size 59 10 A' n c' (l.map Entry.cells) ∧ Below w.heap.size w w' := by
  obtain ⟨i0, hi, hz0, hz1, hz2⟩ := info_parts info_Entry
  go_enter Tryd.func41, Tryd.ntmps41
  go_wp2_with (refine wpList_make rfl (.tmp 6) (.tmp 6) _ rfl w.heap.size 59 10 96 i0 _ Tryd.underlying81 hi hz0 hz1 hz2 .i64 .i64 n rfl rfl zeroEntry rfl rfl (by omega) (by omega) (by simp only [maxLen]; omega) (Nat.le_refl _) ?_; intro w1 hown1 hg1)
  have hb1 := bGrown (Below.refl _ _) hg1 (by simp)
  rw [← Fill.zero Entry.cells zeroEntry l n] at hown1
  go_loopw [4, 20] (fun i t wr => ∃ (k : Nat), k ≤ n ∧ i = .int .i64 k ∧ Own wr w.heap.size 59 10 (some ⟨w.heap.size, 0, none⟩) n n (Fill Entry.cells zeroEntry l k n) ∧ Below w.heap.size w wr) (fun i _ _ => n - (intOf i).toNat)
  case atStart => exact ⟨0, by omega, rfl, hown1, hb1⟩
  case round =>
    obtain ⟨k, hk, rfl, hown, hb⟩ := hrel
    by_cases hlt : k < n
    · obtain ⟨f, g, off, hf, rfl, g0, g1, g2, g3, g4, g5, g6, g7, g8, g9⟩ := RowN.at_ (hr.below hb) hlt
      go_wp2_with fail
      refine (toEntry_c _ _ _ _ _ _ _ _ _ _ _).mono ?_
      rintro e w2 ⟨rfl, hb2⟩
      have hown2 := hown.below hb2
      go_wp2_with (refine wpList_store_elem rfl _ (.tmp 21) (.tmp 20) rfl w.heap.size 59 10 n n w.heap.size k _ rfl _ rfl _ f.cells rfl rfl rfl (one_of rfl) size_Entry hown2 hlt ?_; intro w3 hown3 hg3)
      rw [Fill.set_ _ _ hf hr.len] at hown3
      go_roundw
      case rel => exact ⟨k + 1, by omega, by go_num, hown3, bGrown (bTrans hb hb2) hg3 (by simp)⟩
      case measure => simp [intOf]; omega
    · rw [Fill.full _ _ hr.len hlt] at hown
      go_wp2
      go_ret
      exact ⟨_, _, rfl, hown, hb⟩
theorem eqEntry_c (rm : Bool) (eid id kind : Int) (fr to : ByteArray) (t x y wt : Int) (w : World) :
    Calls Tryd.prog 70 #[vEntry rm eid id kind fr to t x y wt, vEntry rm eid id kind fr to t x y wt] w fun e w' => e = rBool true ∧ Below w.heap.size w w' := by
  go_enter Tryd.func70, Tryd.ntmps70
  go_wp2_with (go_at_call 67; refine (eqFactor_c _ _ _ _ _ _ _ _ _).mono ?_; rintro e w1 ⟨rfl, hb1⟩)
  go_ret
  exact ⟨rfl, by repeat (first | exact Below.refl _ _ | refine bAlloc ?_ _ | refine bTrans ?_ hb1)⟩
theorem eqEntryS_c (A A2 : Option Addr) (n c c2 : Nat) (l : List Entry) (w : World) (hn : n ≤ 1048576) (hr : RowN w A n l) (hr2 : RowN w A2 n l) :
    Calls Tryd.prog 43 #[.slice A n c, .slice A2 n c2] w fun e w' => e = rBool true ∧ Below w.heap.size w w' := by
  go_enter Tryd.func43, Tryd.ntmps43
  go_wp2
  go_loopw [5, 25] (fun i t wr => ∃ (k : Nat), k ≤ n ∧ i = .int .i64 k ∧ Below w.heap.size w wr) (fun i _ _ => n - (intOf i).toNat)
  case atStart => exact ⟨0, by omega, rfl, Below.refl _ _⟩
  case round =>
    obtain ⟨k, hk, rfl, hb⟩ := hrel
    by_cases hlt : k < n
    · obtain ⟨f, g, off, hf, rfl, g0, g1, g2, g3, g4, g5, g6, g7, g8, g9⟩ := RowN.at_ (hr.below hb) hlt
      obtain ⟨f2, g', off', hf2, rfl, k0, k1, k2, k3, k4, k5, k6, k7, k8, k9⟩ := RowN.at_ (hr2.below hb) hlt
      obtain rfl : f = f2 := Option.some.inj (hf.out.symm.trans hf2.out)
      have h0 : (0 : Int) ≤ (k : Int) := by omega
      have h1 : (k : Int) < (n : Int) := by omega
      go_wp2_with fail
      go_region_held3 (fun w' => w'.cell? ⟨g, off + k * 10, none⟩ = some (.bool f.remove) ∧ w'.cell? ⟨g, off + k * 10 + 1, none⟩ = some (.int .i64 f.id) ∧ w'.cell? ⟨g, off + k * 10 + 2, none⟩ = some (.int .i64 f.factor.id) ∧ w'.cell? ⟨g, off + k * 10 + 3, none⟩ = some (.int .i64 f.factor.kind) ∧ w'.cell? ⟨g, off + k * 10 + 4, none⟩ = some (.string f.factor.frm) ∧ w'.cell? ⟨g, off + k * 10 + 5, none⟩ = some (.string f.factor.to) ∧ w'.cell? ⟨g, off + k * 10 + 6, none⟩ = some (.int .i64 f.factor.pose.turn) ∧ w'.cell? ⟨g, off + k * 10 + 7, none⟩ = some (.int .i64 f.factor.pose.x) ∧ w'.cell? ⟨g, off + k * 10 + 8, none⟩ = some (.int .i64 f.factor.pose.y) ∧ w'.cell? ⟨g, off + k * 10 + 9, none⟩ = some (.int .i64 f.factor.weight) ∧ w'.cell? ⟨g', off' + k * 10, none⟩ = some (.bool f.remove) ∧ w'.cell? ⟨g', off' + k * 10 + 1, none⟩ = some (.int .i64 f.id) ∧ w'.cell? ⟨g', off' + k * 10 + 2, none⟩ = some (.int .i64 f.factor.id) ∧ w'.cell? ⟨g', off' + k * 10 + 3, none⟩ = some (.int .i64 f.factor.kind) ∧ w'.cell? ⟨g', off' + k * 10 + 4, none⟩ = some (.string f.factor.frm) ∧ w'.cell? ⟨g', off' + k * 10 + 5, none⟩ = some (.string f.factor.to) ∧ w'.cell? ⟨g', off' + k * 10 + 6, none⟩ = some (.int .i64 f.factor.pose.turn) ∧ w'.cell? ⟨g', off' + k * 10 + 7, none⟩ = some (.int .i64 f.factor.pose.x) ∧ w'.cell? ⟨g', off' + k * 10 + 8, none⟩ = some (.int .i64 f.factor.pose.y) ∧ w'.cell? ⟨g', off' + k * 10 + 9, none⟩ = some (.int .i64 f.factor.weight))
        (first | go_keep | ((repeat' apply And.intro) <;> exact bCell hb1 (by assumption))) ((go_at_call 70; refine (eqEntry_c _ _ _ _ _ _ _ _ _ _ _).mono ?_; rintro e w1 ⟨rfl, hb1⟩))
      go_wp2
      go_roundw
      case rel => exact ⟨k + 1, by omega, by go_num, bTrans (bDrew hb) hb1⟩
      case measure => simp [intOf]; omega
    · go_wp2
      go_ret
      exact ⟨rfl, hb⟩
end Go.Proofs.YtbfajhfmfdiacaaDoor
