/- The channel of FnChannel: it stays small; what an offer answers. No program in sight. -/
import Derived.Test.YtgpmmmfnbphgdaaDoorChnKP
import Derived.Test.YtgpmmmfnbphgdaaDoorTake
namespace Go.Proofs.YtgpmmmfnbphgdaaDoor
open Go.RowKit
set_option linter.unusedVariables false
set_option linter.unusedSimpArgs false
theorem wfC {n : Int} (h0 : -9223372036854775808 ≤ n) (h1 : n ≤ 9223372036854775807) : wfI n := by
  simp [wfI, Lit.wf, IntKind.min, IntKind.max, IntKind.signed, IntKind.bits]
  omega
def AckT (c : Chan) : Prop := ∀ p ∈ c.acks, p.text.size = 0 ∧ 0 ≤ p.sum ∧ p.sum ≤ 65520
theorem AckT.new (e : Int) : (newPkt true e ⟨#[]⟩).text.size = 0 ∧ 0 ≤ (newPkt true e ⟨#[]⟩).sum ∧ (newPkt true e ⟨#[]⟩).sum ≤ 65520 := ⟨rfl, pktSum_bd _ _ _⟩
theorem AckT.dlv {c : Chan} (h : AckT c) (p : Packet) : AckT (dlv c p) := by
  unfold Go.Proofs.YtgpmmmfnbphgdaaDoor.dlv
  split
  · split
    · exact putK_all (P := fun p => p.text.size = 0 ∧ 0 ≤ p.sum ∧ p.sum ≤ 65520) h (AckT.new _)
    · exact putK_all (P := fun p => p.text.size = 0 ∧ 0 ≤ p.sum ∧ p.sum ≤ 65520) h (AckT.new _)
  · exact h
theorem AckT.move {c : Chan} (h : AckT c) (mv at_ : Int) : AckT (moveC c mv at_) := by
  unfold moveC
  split
  · exact h
  split
  · split
    · exact h
    · unfold netC
      split
      · exact h
      · split
        · exact h
        split
        · exact h
        split
        · exact h
        · exact AckT.dlv (c := { c with net := dropK c.net (selK at_ c.net.length) }) h _
  split
  · split
    · exact h
    · unfold ackC
      split
      · exact h
      · split
        · intro p hp
          rw [ackd_acks] at hp
          exact dropK_all (P := fun p => p.text.size = 0 ∧ 0 ≤ p.sum ∧ p.sum ≤ 65520) h p hp
        · exact dropK_all (P := fun p => p.text.size = 0 ∧ 0 ≤ p.sum ∧ p.sum ≤ 65520) h
  · exact h
structure FI (want got : List ByteArray) (m : Nat) (c : Chan) : Prop where
  inv : ChInv want got m c
  ack : AckT c
  sm : ∀ s ∈ want, s.size ≤ 21
  len : want.length ≤ 12
  m12 : m ≤ 12
theorem sum_le {α : Type} {f : α → Nat} {B : Nat} : ∀ {l : List α}, (∀ x ∈ l, f x ≤ B) → sumBulk f l ≤ B * l.length
  | [], _ => Nat.le_refl _
  | x :: l, h => by
    have h1 := h x (by simp)
    have h2 := sum_le (l := l) fun y hy => h y (by simp [hy])
    simp only [sumBulk, List.length_cons, Nat.mul_add, Nat.mul_one]
    omega
theorem FI.inbox {want got : List ByteArray} {m : Nat} {c : Chan} (h : FI want got m c) : (∀ s ∈ c.inbox, s ∈ want) ∧ got.length + c.inbox.length ≤ want.length := by
  have hi := h.inv.inb
  refine ⟨fun s hs => ?_, ?_⟩
  · have : s ∈ got ++ c.inbox := List.mem_append.2 (.inr hs)
    rw [hi] at this
    exact List.mem_of_mem_take this
  · have := congrArg List.length hi
    simp at this; omega
theorem FI.bulk {want got : List ByteArray} {m : Nat} {c : Chan} (h : FI want got m c) : bulkC c ≤ 1048576 := by
  have hq : sumBulk ByteArray.size c.queue ≤ 21 * c.queue.length := sum_le fun s hs => h.sm s (by rw [h.inv.q] at hs; exact List.mem_of_mem_drop hs)
  have hi : sumBulk ByteArray.size c.inbox ≤ 21 * c.inbox.length := sum_le fun s hs => h.sm s (h.inbox.1 s hs)
  have hn : sumBulk Packet.bulk c.net ≤ 21 * c.net.length := sum_le fun p hp => by
    obtain ⟨_, i, hw, _⟩ := h.inv.net p hp
    exact h.sm _ (List.mem_of_getElem? hw)
  have ha : sumBulk Packet.bulk c.acks ≤ 21 * c.acks.length := sum_le fun p hp => by
    have := (h.ack p hp).1
    show p.text.size ≤ 21; omega
  have h1 := h.inv.q8; have h2 := h.inbox.2; have h3 := h.inv.n12; have h4 := h.inv.a12; have h5 := h.len
  unfold bulkC; omega
theorem FI.ok {want got : List ByteArray} {m : Nat} {c : Chan} (h : FI want got m c) : okC c := by
  have h0 := h.inv.b0; have h1 := h.inv.be; have h2 := h.inv.ew; have h5 := h.len; have h6 := h.m12
  refine ⟨fun s hs => ?_, fun s hs => ?_, fun p hp => ?_, fun p hp => ?_, wfC (by omega) (by omega), wfC (by omega) (by omega)⟩
  · have := h.sm s (by rw [h.inv.q] at hs; exact List.mem_of_mem_drop hs)
    simp only [maxLen]; omega
  · have := h.sm s (h.inbox.1 s hs)
    simp only [maxLen]; omega
  · obtain ⟨_, i, hw, hn, j, hj, hs⟩ := h.inv.net p hp
    have h7 := h.sm _ (List.mem_of_getElem? hw)
    have h8 := (List.getElem?_eq_some_iff.1 hw).1
    have h9 := pktSum_bd p.number p.text p.ack
    exact ⟨by simp only [maxLen]; omega, wfC (by omega) (by omega), wfC (by omega) (by omega)⟩
  · obtain ⟨_, h7, h8⟩ := h.inv.acks p hp
    obtain ⟨h9, h10, h11⟩ := h.ack p hp
    exact ⟨by simp only [maxLen]; omega, wfC (by omega) (by omega), wfC (by omega) (by omega)⟩
theorem FI.chan {want got : List ByteArray} {m : Nat} {c : Chan} (h : FI want got m c) : isChan c = true := h.inv.isChan (by have := h.len; omega) (fun s hs => by have := h.sm s hs; omega)
theorem FI.start : FI [] [] 0 ⟨[], 0, 0, [], [], []⟩ :=
  ⟨⟨by decide, by decide, by decide, rfl, by decide, by decide, rfl, by simp, by decide, by simp, by decide⟩, by intro p hp; simp at hp, by simp, by decide, by decide⟩
theorem FI.offer {want got : List ByteArray} {m : Nat} {c : Chan} (h : FI want got m c) {s : ByteArray} (hs : s.size ≤ 21) (hl : want.length < 12) :
    ((offer c s).2 = true ∧ FI (want ++ [s]) got m (offer c s).1) ∨ ((offer c s).2 = false ∧ 0 < want.length ∧ FI want got m (offer c s).1) := by
  by_cases hq : c.queue.length < 8
  · left
    have hn : FI (want ++ [s]) got m (offerC0 c s) := ⟨h.inv.offer hq s, h.ack, fun t ht => by
      rcases List.mem_append.1 ht with ht | ht
      · exact h.sm t ht
      · simp at ht; subst ht; exact hs, by simp; omega, h.m12⟩
    have e : Go.Proofs.YtgpmmmfnbphgdaaDoor.offer c s = (addQ c s, true) := offer_yes h.chan hn.chan
    rw [e]
    exact ⟨rfl, hn⟩
  · right
    have hno : isChan (addQ c s) = false := by
      cases hc : isChan (addQ c s) with
      | false => rfl
      | true =>
        unfold isChan at hc
        simp only [Bool.and_eq_true, decide_eq_true_eq] at hc
        have := hc.2.1
        simp [addQ] at this
        omega
    have e : Go.Proofs.YtgpmmmfnbphgdaaDoor.offer c s = (c, false) := offer_no2 hno
    rw [e]
    have := h.inv.bq; have := h.inv.b0
    exact ⟨rfl, by omega, h⟩
theorem FI.step {want got : List ByteArray} {m : Nat} {c : Chan} (h : FI want got m c) (hm : m < 12) (mv at_ : Int) : FI want got (m + 1) (stepC c mv at_) := by
  have e : stepC c mv at_ = moveC c mv at_ := by unfold stepC; rw [if_pos h.chan]
  rw [e]
  exact ⟨h.inv.move (by omega) mv at_, h.ack.move mv at_, h.sm, h.len, by omega⟩
theorem FI.take {want got : List ByteArray} {m : Nat} {c : Chan} (h : FI want got m c) : FI want (got ++ c.inbox) m (takeC c) := ⟨h.inv.take, h.ack, h.sm, h.len, h.m12⟩
theorem FI.calm {want got : List ByteArray} {m : Nat} {c : Chan} (h : FI want got m c) : (calmC c).queue = [] ∧ got ++ (calmC c).inbox = want := h.inv.calm_all h.chan
end Go.Proofs.YtgpmmmfnbphgdaaDoor
