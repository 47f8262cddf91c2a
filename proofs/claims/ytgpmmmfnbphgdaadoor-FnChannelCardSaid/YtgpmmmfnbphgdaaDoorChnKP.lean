/- The calm, step by step: plain facts. -/
import Derived.Test.YtgpmmmfnbphgdaaDoorChnO
namespace Go.Proofs.YtgpmmmfnbphgdaaDoor
open Go.RowKit
set_option linter.unusedVariables false
set_option linter.unusedSimpArgs false
theorem selK_zero (n : Nat) : selK 0 n = 0 := by simp [selK]
theorem net_step {c : Chan} (h : c.net ≠ []) : moveC c 2 0 = netC c 2 (selK 0 c.net.length) ∧ netAll (moveC c 2 0).net (moveC c 2 0) = netAll c.net c ∧ (moveC c 2 0).net.length + 1 = c.net.length := by
  obtain ⟨p, l, hl⟩ : ∃ p l, c.net = p :: l := by cases hc : c.net with | nil => exact absurd hc h | cons p l => exact ⟨p, l, rfl⟩
  have e1 : moveC c 2 0 = netC c 2 (selK 0 c.net.length) := by
    unfold moveC; rw [if_neg (by decide), if_pos (by decide), if_neg h]
  have e2 : moveC c 2 0 = dlv { c with net := l } p := by
    rw [e1, selK_zero]
    unfold netC
    have h0 : c.net[0]? = some p := by rw [hl]; rfl
    rw [h0]
    show (if (2 : Int) = 4 then _ else _) = _
    rw [if_neg (by decide), if_neg (by decide), if_neg (by decide)]
    congr 2
    rw [hl, dropK_zero]
  refine ⟨e1, ?_, ?_⟩
  · rw [e2, dlv_net, hl]; rfl
  · rw [e2, dlv_net, hl]; rfl
theorem ack_step {c : Chan} (h : c.acks ≠ []) : moveC c 6 0 = ackC c 6 (selK 0 c.acks.length) ∧ ackAll (moveC c 6 0).acks (moveC c 6 0) = ackAll c.acks c ∧ (moveC c 6 0).acks.length + 1 = c.acks.length ∧ (moveC c 6 0).net = c.net ∧ (moveC c 6 0).inbox = c.inbox ∧ (moveC c 6 0).expected = c.expected ∧ top (moveC c 6 0) = top c := by
  obtain ⟨p, l, hl⟩ : ∃ p l, c.acks = p :: l := by cases hc : c.acks with | nil => exact absurd hc h | cons p l => exact ⟨p, l, rfl⟩
  have e1 : moveC c 6 0 = ackC c 6 (selK 0 c.acks.length) := by
    unfold moveC; rw [if_neg (by decide), if_neg (by decide), if_pos (by decide), if_neg h]
  have e2 : moveC c 6 0 = ackd { c with acks := l } p := by
    rw [e1, selK_zero]
    unfold ackC
    have h0 : c.acks[0]? = some p := by rw [hl]; rfl
    rw [h0]
    show (if (6 : Int) = 6 then _ else _) = _
    rw [if_pos rfl]
    congr 2
    rw [hl, dropK_zero]
  refine ⟨e1, ?_, ?_, ?_, ?_, ?_, ?_⟩
  · rw [e2, ackd_acks, hl]; rfl
  · rw [e2, ackd_acks, hl]; rfl
  · rw [e2, ackd_net]
  · rw [e2]; unfold ackd; split <;> rfl
  · rw [e2]; unfold ackd; split <;> rfl
  · rw [e2]; exact ackd_bq { c with acks := l } p
/-- what holds of a channel all through its calm -/
structure KI (t m : Int) (c : Chan) : Prop where
  ok : OKC m c
  tp : top c = t
  rm : room t c.net c ≤ 1048576
theorem KI.few {t m : Int} {c : Chan} (h : KI t m c) : fewC c := by
  have h1 := h.rm
  unfold room at h1
  exact ⟨by have := h.ok.lq; omega, by omega, by have := h.ok.ln; omega, by have := h.ok.la; omega⟩
theorem KI.send {t m : Int} {c : Chan} (h : KI t m c) : KI t m (sendC c) := by
  refine ⟨h.ok.send, h.tp, Nat.le_trans (Nat.le_of_eq ?_) h.rm⟩
  have ht := h.tp
  unfold top at ht
  unfold room
  have : junk t (sendC c).net = junk t c.net := junk_send _ _ _ _ (by have h9 : (c.queue.take 3).length ≤ c.queue.length := List.length_take_le' _ _; omega)
  rw [this]; rfl
theorem KI.net {t m : Int} {c : Chan} (h : KI t m c) (hm : m < 1000000) (hn : c.net ≠ []) : KI t (m + 1) (moveC c 2 0) := by
  obtain ⟨p, l, hl⟩ : ∃ p l, c.net = p :: l := by cases hc : c.net with | nil => exact absurd hc hn | cons p l => exact ⟨p, l, rfl⟩
  have e1 := (net_step hn).1
  have e2 : moveC c 2 0 = dlv { c with net := l } p := by
    rw [e1, selK_zero]
    unfold netC
    have h0 : c.net[0]? = some p := by rw [hl]; rfl
    rw [h0]
    show (if (2 : Int) = 4 then _ else _) = _
    rw [if_neg (by decide), if_neg (by decide), if_neg (by decide)]
    congr 2
    rw [hl, dropK_zero]
  refine ⟨h.ok.move hm 2 0, ?_, ?_⟩
  · rw [e2]; have := dlv_same { c with net := l } p; unfold top; rw [this.1, this.2]; exact h.tp
  · rw [e2, dlv_net]
    have hr := h.rm
    rw [hl] at hr
    exact Nat.le_trans (room_dlv (l := l) (l2 := l) (c := c)) hr
theorem KI.ack {t m : Int} {c : Chan} (h : KI t m c) (hn : c.acks ≠ []) : KI t m (moveC c 6 0) := by
  obtain ⟨e1, _, _, e4, e5, e6, e7⟩ := ack_step hn
  refine ⟨?_, e7.trans h.tp, ?_⟩
  · rw [e1]; exact h.ok.ack1 6 _
  · unfold room; rw [e4, e5, e6]; exact h.rm
theorem KI.up {t m m' : Int} {c : Chan} (h : KI t m c) (h1 : m ≤ m') (h2 : m' ≤ 1000000) : KI t m' c := ⟨h.ok.up h1 h2, h.tp, h.rm⟩
theorem KI.start {c : Chan} (h : isChan c = true) (hm : bulkC c ≤ 1048576) (hok : okC c) : KI (top c) 0 c := by
  refine ⟨OKC.start h hm hok, rfl, ?_⟩
  unfold isChan at h
  simp only [Bool.and_eq_true, decide_eq_true_eq, List.all_eq_true] at h
  have e := inR_iff.1 h.2.2.2.1
  unfold room junk top
  have := List.length_filter_le (fun p : Packet => decide (c.base + (c.queue.length : Int) ≤ p.number)) c.net
  unfold bulkC at hm
  omega
theorem fewC_calm {c : Chan} (hm : bulkC c ≤ 1048576) (hok : okC c) : fewC (calmC c) := by
  have hf := fewC_of hm
  by_cases h : isChan c = true
  · have hi := calm_inbox h
    have ok := OKC.start h hm hok
    have hq : ∀ (n : Nat) (c : Chan), c.queue.length ≤ 8 → (calmN n c).queue.length ≤ 8 := by
      intro n
      induction n with
      | zero => exact fun c h => h
      | succ n ih =>
        intro c hc
        refine ih _ ?_
        have h1 := (netAll_same (sendC c).net (sendC c)).2
        have h2 : ∀ (l : List Packet) (d : Chan), d.queue.length ≤ 8 → (ackAll l d).queue.length ≤ 8 := by
          intro l
          induction l with
          | nil => exact fun d hd => hd
          | cons p l ihl =>
            intro d hd
            refine ihl _ ?_
            unfold ackd; split
            · show (d.queue.drop _).length ≤ 8; simp; omega
            · exact hd
        exact h2 _ _ (by rw [h1]; exact hc)
    have hn : ∀ (n : Nat) (c : Chan), c.net = [] → c.acks = [] → (calmN n c).net = [] ∧ (calmN n c).acks = [] := by
      intro n
      induction n with
      | zero => exact fun c h1 h2 => ⟨h1, h2⟩
      | succ n ih => exact fun c _ _ => ih _ (calm1_empty c).1 (calm1_empty c).2
    unfold calmC at hi ⊢
    rw [if_pos h] at hi ⊢
    have h8 := hn 8 (calm1 c) (calm1_empty c).1 (calm1_empty c).2
    refine ⟨by have := hq 9 c ok.lq; omega, ?_, ?_, ?_⟩
    · unfold bulkC at hm; omega
    · show (calmN 8 (calm1 c)).net.length ≤ _; rw [h8.1]; simp
    · show (calmN 8 (calm1 c)).acks.length ≤ _; rw [h8.2]; simp
  · unfold calmC; rw [if_neg h]; exact hf
end Go.Proofs.YtgpmmmfnbphgdaaDoor
