/- Index: the small callee: sameInts at two readings of the same list. -/
import Derived.Test.YtbfajhfmfdiacaaSIdx
namespace Go.Proofs.Ytbfajhfmfdiacaa
open Go.RowKit
set_option linter.unusedVariables false
set_option linter.unusedSimpArgs false
set_option maxHeartbeats 1600000
set_option maxRecDepth 100000
theorem sameInts_c (A A2 : Option Addr) (n c c2 : Nat) (l : List Int) (w : World) (hn : n ≤ 1048576) (hr : RowI w A n l) (hr2 : RowI w A2 n l) :
    Calls Try.prog 19 #[.slice A n c, .slice A2 n c2] w fun e w' => e = rBool true ∧ w' = w := by
  go_enter Try.func19, Try.ntmps19
  go_wp2_with fail
  go_loopw [14] (fun i wr => ∃ (k : Nat), k ≤ n ∧ i = .int .i64 k ∧ wr = w) (fun i _ => n - (intOf i).toNat)
  case atStart => exact ⟨0, by omega, rfl, rfl⟩
  case round =>
    obtain ⟨k, hk, rfl, rfl⟩ := hrel
    by_cases hlt : k < n
    · obtain ⟨f, g, off, hf, rfl, g0⟩ := RowI.at_ hr hlt
      obtain ⟨f2, g', off', hf2, rfl, k0⟩ := RowI.at_ hr2 hlt
      obtain rfl : f = f2 := by have h1 := hf.out; have h2 := hf2.out; rw [h1] at h2; exact Option.some.inj h2
      have h0 : (0 : Int) ≤ (k : Int) := by omega
      have h1 : (k : Int) < (n : Int) := by omega
      go_wp2_with fail
      go_roundw
      case rel => exact ⟨k + 1, by omega, by go_num, by first | trivial | rfl⟩
      case measure => simp [intOf]; omega
    · go_wp2_with fail
      go_ret
      exact ⟨rfl, rfl⟩
end Go.Proofs.Ytbfajhfmfdiacaa
