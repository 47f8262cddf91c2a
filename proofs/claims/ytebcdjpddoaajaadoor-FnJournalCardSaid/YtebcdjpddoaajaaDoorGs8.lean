/- Texts of this proof, one behind the other: EntryS. -/
import Derived.Test.YtebcdjpddoaajaaDoorGs3
import Derived.Test.YtebcdjpddoaajaaDoorGs7
/- The laws' helpers on slices of entries. -/
namespace Go.Proofs.YtebcdjpddoaajaaDoor
open Go.RowKit
set_option linter.unusedVariables false
set_option linter.unusedSimpArgs false
set_option maxHeartbeats 1000000
def Entry.cells (f : Entry) : List Value := .bool f.remove :: .int .i64 f.id :: f.factor.cells
def Entry.bulk (f : Entry) : Nat := f.factor.bulk
abbrev RowN (w : World) (A : Option Addr) (n : Nat) (l : List Entry) : Prop := Row w A n 10 (l.map Entry.cells)
theorem RowN.at_ {w : World} {A : Option Addr} {n : Nat} {l : List Entry} (h : RowN w A n l) {k : Nat} (hk : k < n) :
    ∃ (f : Entry) (g off : Nat), Hid (l[k]? = some f) ∧ A = some ⟨g, off, none⟩ ∧ w.cell? ⟨g, off + k * 10, none⟩ = some (.bool f.remove) ∧ w.cell? ⟨g, off + k * 10 + 1, none⟩ = some (.int .i64 f.id) ∧ w.cell? ⟨g, off + k * 10 + 2, none⟩ = some (.int .i64 f.factor.id) ∧ w.cell? ⟨g, off + k * 10 + 3, none⟩ = some (.int .i64 f.factor.kind) ∧ w.cell? ⟨g, off + k * 10 + 4, none⟩ = some (.string f.factor.frm) ∧ w.cell? ⟨g, off + k * 10 + 5, none⟩ = some (.string f.factor.to) ∧
      w.cell? ⟨g, off + k * 10 + 6, none⟩ = some (.int .i64 f.factor.pose.turn) ∧ w.cell? ⟨g, off + k * 10 + 7, none⟩ = some (.int .i64 f.factor.pose.x) ∧ w.cell? ⟨g, off + k * 10 + 8, none⟩ = some (.int .i64 f.factor.pose.y) ∧ w.cell? ⟨g, off + k * 10 + 9, none⟩ = some (.int .i64 f.factor.weight) := by
  obtain ⟨f, g, off, hf, hA, hc⟩ := Row.at_ h hk
  exact ⟨f, g, off, hf, hA, hc 0 _ rfl, hc 1 _ rfl, hc 2 _ rfl, hc 3 _ rfl, hc 4 _ rfl, hc 5 _ rfl, hc 6 _ rfl, hc 7 _ rfl, hc 8 _ rfl, hc 9 _ rfl⟩
theorem eqEntry_c (rm : Bool) (eid id kind : Int) (fr to : ByteArray) (t x y wt : Int) (w : World) :
    Calls Tryd.prog 81 #[vEntry rm eid id kind fr to t x y wt, vEntry rm eid id kind fr to t x y wt] w fun e w' => e = rBool true ∧ Below w.heap.size w w' := by
  go_enter Tryd.func81, Tryd.ntmps81
  go_wp2_with (go_at_call 105; refine (eqFactor_c _ _ _ _ _ _ _ _ _).mono ?_; rintro e w1 ⟨rfl, hb1⟩)
  go_ret
  exact ⟨rfl, by repeat (first | exact Below.refl _ _ | refine bAlloc ?_ _ | refine bTrans ?_ hb1)⟩
theorem eqEntryS_c (A A2 : Option Addr) (n c c2 : Nat) (l : List Entry) (w : World) (hn : n ≤ 1048576) (hr : RowN w A n l) (hr2 : RowN w A2 n l) :
    Calls Tryd.prog 42 #[.slice A n c, .slice A2 n c2] w fun e w' => e = rBool true ∧ Below w.heap.size w w' := by
  go_enter Tryd.func42, Tryd.ntmps42
  go_wp2
  go_loopw [5, 25] (fun i t wr => ∃ (k : Nat), k ≤ n ∧ i = .int .i64 k ∧ Below w.heap.size w wr) (fun i _ _ => n - (intOf i).toNat)
  case atStart => exact ⟨0, by omega, rfl, Below.refl _ _⟩
  case round =>
    obtain ⟨k, hk, rfl, hb⟩ := hrel
    by_cases hlt : k < n
    · obtain ⟨f, g, off, hf, rfl, g0, g1, g2, g3, g4, g5, g6, g7, g8, g9⟩ := RowN.at_ (hr.below hb) hlt
      obtain ⟨f2, g', off', hf2, rfl, k0, k1, k2, k3, k4, k5, k6, k7, k8, k9⟩ := RowN.at_ (hr2.below hb) hlt
      obtain rfl : f = f2 := Option.some.inj (hf.out.symm.trans hf2.out)
      have h0 : (0 : Int) ≤ (k : Int) := by omega
      have h1 : (k : Int) < (n : Int) := by omega
      go_wp2_with fail
      go_region_held3 (fun w' => w'.cell? ⟨g, off + k * 10, none⟩ = some (.bool f.remove) ∧ w'.cell? ⟨g, off + k * 10 + 1, none⟩ = some (.int .i64 f.id) ∧ w'.cell? ⟨g, off + k * 10 + 2, none⟩ = some (.int .i64 f.factor.id) ∧ w'.cell? ⟨g, off + k * 10 + 3, none⟩ = some (.int .i64 f.factor.kind) ∧ w'.cell? ⟨g, off + k * 10 + 4, none⟩ = some (.string f.factor.frm) ∧ w'.cell? ⟨g, off + k * 10 + 5, none⟩ = some (.string f.factor.to) ∧ w'.cell? ⟨g, off + k * 10 + 6, none⟩ = some (.int .i64 f.factor.pose.turn) ∧ w'.cell? ⟨g, off + k * 10 + 7, none⟩ = some (.int .i64 f.factor.pose.x) ∧ w'.cell? ⟨g, off + k * 10 + 8, none⟩ = some (.int .i64 f.factor.pose.y) ∧ w'.cell? ⟨g, off + k * 10 + 9, none⟩ = some (.int .i64 f.factor.weight) ∧ w'.cell? ⟨g', off' + k * 10, none⟩ = some (.bool f.remove) ∧ w'.cell? ⟨g', off' + k * 10 + 1, none⟩ = some (.int .i64 f.id) ∧ w'.cell? ⟨g', off' + k * 10 + 2, none⟩ = some (.int .i64 f.factor.id) ∧ w'.cell? ⟨g', off' + k * 10 + 3, none⟩ = some (.int .i64 f.factor.kind) ∧ w'.cell? ⟨g', off' + k * 10 + 4, none⟩ = some (.string f.factor.frm) ∧ w'.cell? ⟨g', off' + k * 10 + 5, none⟩ = some (.string f.factor.to) ∧ w'.cell? ⟨g', off' + k * 10 + 6, none⟩ = some (.int .i64 f.factor.pose.turn) ∧ w'.cell? ⟨g', off' + k * 10 + 7, none⟩ = some (.int .i64 f.factor.pose.x) ∧ w'.cell? ⟨g', off' + k * 10 + 8, none⟩ = some (.int .i64 f.factor.pose.y) ∧ w'.cell? ⟨g', off' + k * 10 + 9, none⟩ = some (.int .i64 f.factor.weight))
        (first | go_keep | ((repeat' apply And.intro) <;> exact bCell hb1 (by assumption))) ((go_at_call 81; refine (eqEntry_c _ _ _ _ _ _ _ _ _ _ _).mono ?_; rintro e w1 ⟨rfl, hb1⟩))
      go_wp2
      go_roundw
      case rel => exact ⟨k + 1, by omega, by go_num, bTrans (bDrew hb) hb1⟩
      case measure => simp [intOf]; omega
    · go_wp2
      go_ret
      exact ⟨rfl, hb⟩
end Go.Proofs.YtebcdjpddoaajaaDoor
