/- Texts of this proof, one behind the other: ChnV. -/
import Derived.Deep.RegionHeld3
import Derived.Test.YtdfemnffpaopfaaGreatDoorGrr36
/- A packet of Net is moved: program and reference, move by move. -/
namespace Go.Proofs.YtdfemnffpaopfaaGreatDoor
open Go.RowKit
set_option linter.unusedVariables false
set_option linter.unusedSimpArgs false
set_option maxHeartbeats 2000000
set_option maxRecDepth 100000
theorem CB.at_ {w0 w R : World} {fs : List Nat} {B b0 : Nat} {v : CV} {c : Chan} {sd : List Side} (h : CB w0 fs B b0 v c sd w) (e : Hid (R = w)) : CB w0 fs B b0 v c sd R := by rw [e.out]; exact h
/-- what is asked of a channel whose packets are moved: short texts, numbers of the machine, short lists -/
structure OKC (m : Int) (c : Chan) : Prop where
  m0 : 0 ≤ m
  m1 : m ≤ 1000000
  q : ∀ s ∈ c.queue, s.size ≤ 4194304
  net : ∀ p ∈ c.net, p.text.size ≤ 4194304 ∧ -9223372036854775808 ≤ p.number ∧ p.number ≤ 9223372036854775807
  acks : ∀ p ∈ c.acks, p.text.size ≤ 4194304 ∧ -9223372036854775808 ≤ p.number ∧ p.number ≤ 9223372036854775807
  lq : c.queue.length ≤ 8
  li : (c.inbox.length : Int) ≤ 4194304 + m
  ln : c.net.length ≤ 12
  la : c.acks.length ≤ 12
  b0 : 0 ≤ c.base
  b1 : c.base + c.queue.length ≤ 1000008
  e0 : 0 ≤ c.expected
  e1 : c.expected ≤ 1000008 + m
end Go.Proofs.YtdfemnffpaopfaaGreatDoor

