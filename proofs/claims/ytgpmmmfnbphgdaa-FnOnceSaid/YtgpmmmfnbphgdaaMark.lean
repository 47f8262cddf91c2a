/- The laws' own marks. -/
import Derived.Test.YtgpmmmfnbphgdaaOwn
import Derived.Test.YtgpmmmfnbphgdaaProg
import Derived.Deep.RegionHeld3
namespace Go.Proofs.Ytgpmmmfnbphgdaa
open Go.RowKit
set_option linter.unusedVariables false
set_option linter.unusedSimpArgs false
set_option maxHeartbeats 400000

/-- the decimal digits of n, ahead of acc -/
def mdig (n : Nat) (acc : List UInt8) : List UInt8 := if n = 0 then acc else mdig (n / 10) ((48 + UInt8.ofNat (n % 10)) :: acc)
termination_by n
decreasing_by omega
def markTxt (k : Int) : ByteArray := if k ≤ 0 then ⟨#[109, 48]⟩ else ⟨(109 :: mdig k.toNat []).toArray⟩

theorem mstep (n : Nat) (acc : List UInt8) (h : 0 < n) : mdig n acc = mdig (n / 10) ((48 + UInt8.ofNat (n % 10)) :: acc) := by
  rw [mdig, if_neg (by omega)]
/-- n behind len(acc) digits fits an int -/
def MB (n : Nat) (acc : List UInt8) : Prop := n * 10 ^ acc.length ≤ 9223372036854775807
def MI (k : Int) : Prop := k ≤ 9223372036854775807
theorem MB.zero {k : Int} (h : MI k) : MB k.toNat [] := by
  have : k ≤ 9223372036854775807 := h
  simp [MB]; omega
theorem MB.len {n : Nat} {acc : List UInt8} (h : MB n acc) (hn : 0 < n) : acc.length ≤ 18 := by
  have h' : n * 10 ^ acc.length ≤ 9223372036854775807 := h
  rcases Nat.lt_or_ge 18 acc.length with hl | hl
  · have h1 : 10 ^ 19 ≤ 10 ^ acc.length := Nat.pow_le_pow_right (by omega) hl
    have h2 : 1 * 10 ^ acc.length ≤ n * 10 ^ acc.length := Nat.mul_le_mul_right _ hn
    have h3 : (10 : Nat) ^ 19 = 10000000000000000000 := by decide
    omega
  · exact hl
theorem MB.next {n : Nat} {acc : List UInt8} (b : UInt8) (h : MB n acc) : MB (n / 10) (b :: acc) := by
  have h' : n * 10 ^ acc.length ≤ 9223372036854775807 := h
  have h1 : n / 10 * 10 ^ (acc.length + 1) = (n / 10 * 10) * 10 ^ acc.length := by rw [Nat.pow_succ, Nat.mul_comm (10 ^ acc.length) 10, Nat.mul_assoc]
  have h2 : (n / 10 * 10) * 10 ^ acc.length ≤ n * 10 ^ acc.length := Nat.mul_le_mul_right _ (Nat.div_mul_le_self n 10)
  unfold MB
  rw [List.length_cons, h1]
  omega
theorem MB.wrap {n : Nat} {acc : List UInt8} (h : MB n acc) : wrap64 ((n : Int) / 10) = (n : Int) / 10 := by
  have h' : n * 10 ^ acc.length ≤ 9223372036854775807 := h
  have h1 : n * 1 ≤ n * 10 ^ acc.length := Nat.mul_le_mul_left _ (Nat.pow_pos (by omega))
  exact IntWalk.wrap64_in _ ⟨by omega, by omega⟩
theorem mless {n : Nat} {acc : List UInt8} (h : MB n acc) (hp : 0 < n) : (intOf (.int .i64 (wrap64 ((n : Int) / 10)))).toNat < (intOf (.int .i64 (n : Int))).toNat := by
  rw [h.wrap]
  show ((n : Int) / 10).toNat < (n : Int).toNat
  omega
set_option maxRecDepth 100000 in
theorem sz_int : (Try.prog.info? 3).map (·.size) = some 1 := by kernel_rfl
theorem sz_str : (Try.prog.info? 9).map (·.size) = some 1 := by kernel_rfl
theorem MI.of {k : Int} (h : k ≤ 1000000000000) : MI k := by unfold MI; omega






end Go.Proofs.Ytgpmmmfnbphgdaa
