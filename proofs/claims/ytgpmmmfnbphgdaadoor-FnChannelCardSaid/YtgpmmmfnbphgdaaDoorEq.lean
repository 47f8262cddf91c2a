/- The laws' own comparisons: two values that read alike are found alike. -/
import Derived.Test.YtgpmmmfnbphgdaaDoorOwn
import Derived.Test.YtgpmmmfnbphgdaaDoorProg
import Derived.BigQuiet
import Derived.Deep.QuietTactic
import Derived.StillTailTactics
import Derived.Deep.RegionHeld3
namespace Go.Proofs.YtgpmmmfnbphgdaaDoor
open Go.RowKit
set_option linter.unusedVariables false
set_option linter.unusedSimpArgs false
set_option maxHeartbeats 400000

theorem eqFactor_c (id : Int) (kind : Int) (fr : ByteArray) (to : ByteArray) (t : Int) (x : Int) (y : Int) (wt : Int) (w : World) :
    Calls Tryd.prog 154 #[vFactor id kind fr to t x y wt, vFactor id kind fr to t x y wt] w fun e w' => e = rBool true ∧ Below w.heap.size w w' := by
  go_enter Tryd.func154, Tryd.ntmps154
  go_wp2
  go_ret
  exact ⟨rfl, by repeat (first | exact Below.refl _ _ | refine bAlloc ?_ _)⟩

theorem eqFactorS_c (A A2 : Option Addr) (n c c2 : Nat) (l : List Factor) (w : World) (hn : n ≤ 1048576) (hr : RowF w A n l) (hr2 : RowF w A2 n l) :
    Calls Tryd.prog 110 #[.slice A n c, .slice A2 n c2] w fun e w' => e = rBool true ∧ Below w.heap.size w w' := by
  go_enter Tryd.func110, Tryd.ntmps110
  go_wp2
  go_loopw [5, 25] (fun i t wr => ∃ (k : Nat), k ≤ n ∧ i = .int .i64 k ∧ Below w.heap.size w wr) (fun i _ _ => n - (intOf i).toNat)
  case atStart => exact ⟨0, by omega, rfl, Below.refl _ _⟩
  case round =>
    obtain ⟨k, hk, rfl, hb⟩ := hrel
    by_cases hlt : k < n
    · obtain ⟨f, g, off, hf, rfl, g0, g1, g2, g3, g4, g5, g6, g7⟩ := RowF.at_ (hr.below hb) hlt
      obtain ⟨f2, g', off', hf2, rfl, k0, k1, k2, k3, k4, k5, k6, k7⟩ := RowF.at_ (hr2.below hb) hlt
      obtain rfl : f = f2 := Option.some.inj (hf.out.symm.trans hf2.out)
      have h0 : (0 : Int) ≤ (k : Int) := by omega
      have h1 : (k : Int) < (n : Int) := by omega
      go_wp2_with fail
      go_region_held3 (fun w' => w'.cell? ⟨g, off + k * 8, none⟩ = some (.int .i64 f.id) ∧ w'.cell? ⟨g, off + k * 8 + 1, none⟩ = some (.int .i64 f.kind) ∧ w'.cell? ⟨g, off + k * 8 + 2, none⟩ = some (.string f.frm) ∧ w'.cell? ⟨g, off + k * 8 + 3, none⟩ = some (.string f.to) ∧ w'.cell? ⟨g, off + k * 8 + 4, none⟩ = some (.int .i64 f.pose.turn) ∧ w'.cell? ⟨g, off + k * 8 + 5, none⟩ = some (.int .i64 f.pose.x) ∧ w'.cell? ⟨g, off + k * 8 + 6, none⟩ = some (.int .i64 f.pose.y) ∧ w'.cell? ⟨g, off + k * 8 + 7, none⟩ = some (.int .i64 f.weight) ∧ w'.cell? ⟨g', off' + k * 8, none⟩ = some (.int .i64 f.id) ∧ w'.cell? ⟨g', off' + k * 8 + 1, none⟩ = some (.int .i64 f.kind) ∧ w'.cell? ⟨g', off' + k * 8 + 2, none⟩ = some (.string f.frm) ∧ w'.cell? ⟨g', off' + k * 8 + 3, none⟩ = some (.string f.to) ∧ w'.cell? ⟨g', off' + k * 8 + 4, none⟩ = some (.int .i64 f.pose.turn) ∧ w'.cell? ⟨g', off' + k * 8 + 5, none⟩ = some (.int .i64 f.pose.x) ∧ w'.cell? ⟨g', off' + k * 8 + 6, none⟩ = some (.int .i64 f.pose.y) ∧ w'.cell? ⟨g', off' + k * 8 + 7, none⟩ = some (.int .i64 f.weight))
        (first | go_keep | ((repeat' apply And.intro) <;> exact bCell hb1 (by assumption))) ((go_at_call 154; refine (eqFactor_c _ _ _ _ _ _ _ _ _).mono ?_; rintro e w1 ⟨rfl, hb1⟩))
      go_wp2
      go_roundw
      case rel => exact ⟨k + 1, by omega, by go_num, bTrans (bDrew hb) hb1⟩
      case measure => simp [intOf]; omega
    · go_wp2
      go_ret
      exact ⟨rfl, hb⟩


theorem eqPacket_c (ack : Bool) (num : Int) (tx : ByteArray) (sum : Int) (w : World) :
    Calls Tryd.prog 134 #[vPacket ack num tx sum, vPacket ack num tx sum] w fun e w' => e = rBool true ∧ Below w.heap.size w w' := by
  go_enter Tryd.func134, Tryd.ntmps134
  go_wp2
  go_ret
  exact ⟨rfl, by repeat (first | exact Below.refl _ _ | refine bAlloc ?_ _)⟩

theorem eqPacketS_c (A A2 : Option Addr) (n c c2 : Nat) (l : List Packet) (w : World) (hn : n ≤ 1048576) (hr : RowK w A n l) (hr2 : RowK w A2 n l) :
    Calls Tryd.prog 79 #[.slice A n c, .slice A2 n c2] w fun e w' => e = rBool true ∧ Below w.heap.size w w' := by
  go_enter Tryd.func79, Tryd.ntmps79
  go_wp2
  go_loopw [5, 25] (fun i t wr => ∃ (k : Nat), k ≤ n ∧ i = .int .i64 k ∧ Below w.heap.size w wr) (fun i _ _ => n - (intOf i).toNat)
  case atStart => exact ⟨0, by omega, rfl, Below.refl _ _⟩
  case round =>
    obtain ⟨k, hk, rfl, hb⟩ := hrel
    by_cases hlt : k < n
    · obtain ⟨f, g, off, hf, rfl, g0, g1, g2, g3⟩ := RowK.at_ (hr.below hb) hlt
      obtain ⟨f2, g', off', hf2, rfl, k0, k1, k2, k3⟩ := RowK.at_ (hr2.below hb) hlt
      obtain rfl : f = f2 := Option.some.inj (hf.out.symm.trans hf2.out)
      have h0 : (0 : Int) ≤ (k : Int) := by omega
      have h1 : (k : Int) < (n : Int) := by omega
      go_wp2_with fail
      go_region_held3 (fun w' => w'.cell? ⟨g, off + k * 4, none⟩ = some (.bool f.ack) ∧ w'.cell? ⟨g, off + k * 4 + 1, none⟩ = some (.int .i64 f.number) ∧ w'.cell? ⟨g, off + k * 4 + 2, none⟩ = some (.string f.text) ∧ w'.cell? ⟨g, off + k * 4 + 3, none⟩ = some (.int .i64 f.sum) ∧ w'.cell? ⟨g', off' + k * 4, none⟩ = some (.bool f.ack) ∧ w'.cell? ⟨g', off' + k * 4 + 1, none⟩ = some (.int .i64 f.number) ∧ w'.cell? ⟨g', off' + k * 4 + 2, none⟩ = some (.string f.text) ∧ w'.cell? ⟨g', off' + k * 4 + 3, none⟩ = some (.int .i64 f.sum))
        (first | go_keep | ((repeat' apply And.intro) <;> exact bCell hb1 (by assumption))) ((go_at_call 134; refine (eqPacket_c _ _ _ _ _).mono ?_; rintro e w1 ⟨rfl, hb1⟩))
      go_wp2
      go_roundw
      case rel => exact ⟨k + 1, by omega, by go_num, bTrans (bDrew hb) hb1⟩
      case measure => simp [intOf]; omega
    · go_wp2
      go_ret
      exact ⟨rfl, hb⟩

theorem eqStringS_c (A A2 : Option Addr) (n c c2 : Nat) (l : List ByteArray) (w : World) (hn : n ≤ 1048576) (hr : RowS w A n l) (hr2 : RowS w A2 n l) :
    Calls Tryd.prog 78 #[.slice A n c, .slice A2 n c2] w fun e w' => e = rBool true ∧ Below w.heap.size w w' := by
  go_enter Tryd.func78, Tryd.ntmps78
  go_wp2
  go_loopw [5] (fun i wr => ∃ (k : Nat), k ≤ n ∧ i = .int .i64 k ∧ Below w.heap.size w wr) (fun i _ => n - (intOf i).toNat)
  case atStart => exact ⟨0, by omega, rfl, Below.refl _ _⟩
  case round =>
    obtain ⟨k, hk, rfl, hb⟩ := hrel
    by_cases hlt : k < n
    · obtain ⟨f, g, off, hf, rfl, g0⟩ := RowS.at_ (hr.below hb) hlt
      obtain ⟨f2, g', off', hf2, rfl, k0⟩ := RowS.at_ (hr2.below hb) hlt
      obtain rfl : f = f2 := Option.some.inj (hf.out.symm.trans hf2.out)
      have h0 : (0 : Int) ≤ (k : Int) := by omega
      have h1 : (k : Int) < (n : Int) := by omega
      go_wp2_with fail
      go_quiet (fail)
      go_wp2
      go_roundw
      case rel => exact ⟨k + 1, by omega, by go_num, bDrewN hb _⟩
      case measure => simp [intOf]; omega
    · go_wp2
      go_ret
      exact ⟨rfl, hb⟩


end Go.Proofs.YtgpmmmfnbphgdaaDoor
