/- Texts of this proof, one behind the other: ChnS, ChnO, ChnKP. -/
import Derived.Test.YtdfemnffpaopfaaGreatDoorGrr38
/- Strings are sent; a move without a packet: the reference. -/
namespace Go.Proofs.YtdfemnffpaopfaaGreatDoor
open Go.RowKit
set_option linter.unusedVariables false
set_option linter.unusedSimpArgs false
set_option maxHeartbeats 2000000
set_option maxRecDepth 100000
/-- Net behind i rounds of sending -/
def sentK (c : Chan) (i : Nat) : List Packet := sendL (c.queue.take (min i 3)) c.base c.net
theorem sendL_len : ∀ (l : List ByteArray) (n : Int) (net : List Packet), net.length ≤ 12 → (sendL l n net).length ≤ 12
  | [], n, net, h => h
  | s :: l, n, net, h => sendL_len l (n + 1) _ (putK_len h)
end Go.Proofs.YtdfemnffpaopfaaGreatDoor


/- What a move keeps of a channel: short texts, few packets; no string is lost or added beyond measure. No program in sight. -/
namespace Go.Proofs.YtdfemnffpaopfaaGreatDoor
open Go.RowKit
set_option linter.unusedVariables false
set_option linter.unusedSimpArgs false
def okPk (p : Packet) : Prop := p.text.size ≤ 4194304 ∧ -9223372036854775808 ≤ p.number ∧ p.number ≤ 9223372036854775807
theorem OKC.netp {m : Int} {c : Chan} (h : OKC m c) : ∀ p ∈ c.net, okPk p := h.net
theorem OKC.ackp {m : Int} {c : Chan} (h : OKC m c) : ∀ p ∈ c.acks, okPk p := h.acks
theorem OKC.up {m m' : Int} {c : Chan} (h : OKC m c) (h1 : m ≤ m') (h2 : m' ≤ 1000000) : OKC m' c :=
  ⟨Int.le_trans h.m0 h1, h2, h.q, h.net, h.acks, h.lq, by have := h.li; omega, h.ln, h.la, h.b0, h.b1, h.e0, by have := h.e1; omega⟩
theorem OKC.withNet {m : Int} {c : Chan} (h : OKC m c) {l : List Packet} (hl : ∀ p ∈ l, okPk p) (h12 : l.length ≤ 12) : OKC m { c with net := l } :=
  ⟨h.m0, h.m1, h.q, hl, h.acks, h.lq, h.li, h12, h.la, h.b0, h.b1, h.e0, h.e1⟩
theorem OKC.withAcks {m : Int} {c : Chan} (h : OKC m c) {l : List Packet} (hl : ∀ p ∈ l, okPk p) (h12 : l.length ≤ 12) : OKC m { c with acks := l } :=
  ⟨h.m0, h.m1, h.q, h.net, hl, h.lq, h.li, h.ln, h12, h.b0, h.b1, h.e0, h.e1⟩
theorem sendL_okP : ∀ (q : List ByteArray) (n : Int) (net : List Packet), (∀ s ∈ q, s.size ≤ 4194304) → 0 ≤ n → n + q.length ≤ 2000000 → (∀ p ∈ net, okPk p) → ∀ p ∈ sendL q n net, okPk p
  | [], n, net, _, _, _, h => h
  | s :: q, n, net, hq, h0, h1, h => by
    simp only [List.length_cons] at h1
    exact sendL_okP q (n + 1) _ (fun t ht => hq t (by simp [ht])) (by omega) (by push_cast at h1; omega) (putK_all h ⟨hq s (by simp), by show _ ≤ n; omega, by show n ≤ _; push_cast at h1; omega⟩)
theorem OKC.send {m : Int} {c : Chan} (h : OKC m c) : OKC m (sendC c) := by
  have h1 := h.b0; have h2 := h.b1; have h3 := h.lq
  refine h.withNet (sendL_okP _ _ _ (fun s hs => h.q s (List.mem_of_mem_take hs)) h1 (by have h9 : (c.queue.take 3).length ≤ c.queue.length := List.length_take_le' _ _; omega) h.netp) (sendL_len _ _ _ h.ln)
theorem OKC.dlv {m : Int} {c : Chan} (h : OKC m c) (hm : m < 1000000) {p : Packet} (hp : okPk p) : OKC (m + 1) (dlv c p) := by
  have hu := h.up (m' := m + 1) (by omega) (by omega)
  have h1 := h.e0; have h2 := h.e1; have h3 := h.li
  have hnil : (⟨#[]⟩ : ByteArray).size ≤ 4194304 := by decide
  unfold Go.Proofs.YtdfemnffpaopfaaGreatDoor.dlv
  split
  · split
    · refine ⟨hu.m0, hu.m1, h.q, h.net, putK_all h.ackp ⟨hnil, by show _ ≤ c.expected + 1; omega, by show c.expected + 1 ≤ _; omega⟩, h.lq, ?_, h.ln, putK_len h.la, h.b0, h.b1, by show 0 ≤ c.expected + 1; omega, by show c.expected + 1 ≤ _; omega⟩
      show ((c.inbox ++ [p.text]).length : Int) ≤ _
      simp; omega
    · exact hu.withAcks (putK_all h.ackp ⟨hnil, by show _ ≤ c.expected; omega, by show c.expected ≤ _; omega⟩) (putK_len h.la)
  · exact hu
theorem OKC.ackd {m : Int} {c : Chan} (h : OKC m c) (p : Packet) : OKC m (ackd c p) := by
  have h1 := h.b0; have h2 := h.b1; have h3 := h.lq
  unfold Go.Proofs.YtdfemnffpaopfaaGreatDoor.ackd
  split
  · rename_i hc
    obtain ⟨_, _, c1, c2⟩ := hc
    exact ⟨h.m0, h.m1, fun s hs => h.q s (List.mem_of_mem_drop hs), h.net, h.acks, by show (c.queue.drop _).length ≤ 8; simp; omega, h.li, h.ln, h.la, by show 0 ≤ p.number; omega, by show p.number + ((c.queue.drop _).length : Int) ≤ _; simp; omega, h.e0, h.e1⟩
  · exact h
theorem OKC.net1 {m : Int} {c : Chan} (h : OKC m c) (hm : m < 1000000) (mv : Int) (k : Nat) : OKC (m + 1) (netC c mv k) := by
  have hu := h.up (m' := m + 1) (by omega) (by omega)
  unfold netC
  split
  · exact hu
  · rename_i p hp
    have hpm := h.netp p (List.mem_of_getElem? hp)
    split
    · exact hu.withNet (putK_all h.netp hpm) (putK_len h.ln)
    split
    · rw [spoilK_eq hp]
      refine hu.withNet (fun x hx => ?_) (by simpa using h.ln)
      rcases List.mem_or_eq_of_mem_set hx with hx | rfl
      · exact h.netp x hx
      · exact hpm
    split
    · exact hu.withNet (dropK_all h.netp) (dropK_len h.ln)
    · exact (h.withNet (dropK_all h.netp) (dropK_len h.ln)).dlv hm hpm
theorem OKC.ack1 {m : Int} {c : Chan} (h : OKC m c) (mv : Int) (k : Nat) : OKC m (ackC c mv k) := by
  unfold ackC
  split
  · exact h
  · split
    · exact (h.withAcks (dropK_all h.ackp) (dropK_len h.la)).ackd _
    · exact h.withAcks (dropK_all h.ackp) (dropK_len h.la)
theorem OKC.move {m : Int} {c : Chan} (h : OKC m c) (hm : m < 1000000) (mv at_ : Int) : OKC (m + 1) (moveC c mv at_) := by
  have hu := h.up (m' := m + 1) (by omega) (by omega)
  unfold moveC
  split
  · exact hu.send
  split
  · split
    · exact hu
    · exact h.net1 hm mv _
  split
  · split
    · exact hu
    · exact hu.ack1 mv _
  · exact hu
theorem wf_range {n : Int} (h : wfI n) : -9223372036854775808 ≤ n ∧ n ≤ 9223372036854775807 := by
  simp [wfI, Lit.wf, IntKind.min, IntKind.max, IntKind.signed, IntKind.bits] at h
  omega
theorem OKC.start {c : Chan} (h : isChan c = true) (hm : bulkC c ≤ 4194304) (hok : okC c) : OKC 0 c := by
  unfold Go.Proofs.YtdfemnffpaopfaaGreatDoor.isChan at h
  simp only [Bool.and_eq_true, decide_eq_true_eq, List.all_eq_true] at h
  obtain ⟨h1, h2, h3, h4, h5, h6⟩ := h
  have b := inR_iff.1 h3; have e := inR_iff.1 h4
  unfold bulkC at hm
  obtain ⟨o0, o1, o2, o3, _, _⟩ := hok
  refine ⟨Int.le_refl _, by omega, fun s hs => by have := h1 s hs; omega, fun p hp => ?_, fun p hp => ?_, h2, by omega, h5, h6, b.1, by omega, by omega, by omega⟩
  · have := mem_bulk (c := Packet.bulk) hp
    have hw := wf_range (o2 p hp).2.1
    simp only [Packet.bulk] at this
    exact ⟨by omega, hw⟩
  · have := mem_bulk (c := Packet.bulk) hp
    have hw := wf_range (o3 p hp).2.1
    simp only [Packet.bulk] at this
    exact ⟨by omega, hw⟩
/-! ### how long the inbox grows -/
def top (c : Chan) : Int := c.base + c.queue.length
def junk (t : Int) (l : List Packet) : Nat := (l.filter fun p => decide (t ≤ p.number)).length
/-- strings that came in, and that can come in at most -/
def room (t : Int) (l : List Packet) (c : Chan) : Nat := c.inbox.length + (t - c.expected).toNat + junk t l
theorem room_dlv {t : Int} {p : Packet} {l l2 : List Packet} {c : Chan} : room t l (dlv { c with net := l2 } p) ≤ room t (p :: l) c := by
  unfold room junk
  rw [List.filter_cons]
  unfold dlv
  split
  · split
    · rename_i hn
      have hn' : p.number = c.expected := hn
      show (c.inbox ++ [p.text]).length + (t - (c.expected + 1)).toNat + _ ≤ c.inbox.length + (t - c.expected).toNat + _
      by_cases ht : t ≤ p.number
      · rw [if_pos (by simpa using ht)]
        simp only [List.length_append, List.length_cons, List.length_nil]; omega
      · rw [if_neg (by simpa using ht)]
        simp only [List.length_append, List.length_cons, List.length_nil]; omega
    · show c.inbox.length + (t - c.expected).toNat + _ ≤ _
      split
      · simp only [List.length_cons]; omega
      · exact Nat.le_refl _
  · show c.inbox.length + (t - c.expected).toNat + _ ≤ _
    split
    · simp only [List.length_cons]; omega
    · exact Nat.le_refl _
theorem junk_put {t : Int} {l : List Packet} {p : Packet} (h : p.number < t) : junk t (putK l p) = junk t l := by
  unfold junk putK
  split
  · rfl
  · rw [List.filter_append]; simp; omega
theorem junk_send : ∀ (q : List ByteArray) (n t : Int) (net : List Packet), n + q.length ≤ t → junk t (sendL q n net) = junk t net
  | [], n, t, net, _ => rfl
  | s :: q, n, t, net, h => by
    simp only [List.length_cons] at h
    rw [sendL, junk_send q (n + 1) t _ (by push_cast at h; omega), junk_put (by show n < t; push_cast at h; omega)]
end Go.Proofs.YtdfemnffpaopfaaGreatDoor


/- The calm, step by step: plain facts. -/
namespace Go.Proofs.YtdfemnffpaopfaaGreatDoor
open Go.RowKit
set_option linter.unusedVariables false
set_option linter.unusedSimpArgs false
theorem selK_zero (n : Nat) : selK 0 n = 0 := by simp [selK]
theorem net_step {c : Chan} (h : c.net ≠ []) : moveC c 2 0 = netC c 2 (selK 0 c.net.length) ∧ netAll (moveC c 2 0).net (moveC c 2 0) = netAll c.net c ∧ (moveC c 2 0).net.length + 1 = c.net.length := by
  obtain ⟨p, l, hl⟩ : ∃ p l, c.net = p :: l := by cases hc : c.net with | nil => exact absurd hc h | cons p l => exact ⟨p, l, rfl⟩
  have e1 : moveC c 2 0 = netC c 2 (selK 0 c.net.length) := by
    unfold moveC; rw [if_neg (by decide), if_pos (by decide), if_neg h]
  have e2 : moveC c 2 0 = dlv { c with net := l } p := by
    rw [e1, selK_zero]
    unfold netC
    have h0 : c.net[0]? = some p := by rw [hl]; rfl
    rw [h0]
    show (if (2 : Int) = 4 then _ else _) = _
    rw [if_neg (by decide), if_neg (by decide), if_neg (by decide)]
    congr 2
    rw [hl, dropK_zero]
  refine ⟨e1, ?_, ?_⟩
  · rw [e2, dlv_net, hl]; rfl
  · rw [e2, dlv_net, hl]; rfl
theorem ack_step {c : Chan} (h : c.acks ≠ []) : moveC c 6 0 = ackC c 6 (selK 0 c.acks.length) ∧ ackAll (moveC c 6 0).acks (moveC c 6 0) = ackAll c.acks c ∧ (moveC c 6 0).acks.length + 1 = c.acks.length ∧ (moveC c 6 0).net = c.net ∧ (moveC c 6 0).inbox = c.inbox ∧ (moveC c 6 0).expected = c.expected ∧ top (moveC c 6 0) = top c := by
  obtain ⟨p, l, hl⟩ : ∃ p l, c.acks = p :: l := by cases hc : c.acks with | nil => exact absurd hc h | cons p l => exact ⟨p, l, rfl⟩
  have e1 : moveC c 6 0 = ackC c 6 (selK 0 c.acks.length) := by
    unfold moveC; rw [if_neg (by decide), if_neg (by decide), if_pos (by decide), if_neg h]
  have e2 : moveC c 6 0 = ackd { c with acks := l } p := by
    rw [e1, selK_zero]
    unfold ackC
    have h0 : c.acks[0]? = some p := by rw [hl]; rfl
    rw [h0]
    show (if (6 : Int) = 6 then _ else _) = _
    rw [if_pos rfl]
    congr 2
    rw [hl, dropK_zero]
  refine ⟨e1, ?_, ?_, ?_, ?_, ?_, ?_⟩
  · rw [e2, ackd_acks, hl]; rfl
  · rw [e2, ackd_acks, hl]; rfl
  · rw [e2, ackd_net]
  · rw [e2]; unfold ackd; split <;> rfl
  · rw [e2]; unfold ackd; split <;> rfl
  · rw [e2]; exact ackd_bq { c with acks := l } p
/-- what holds of a channel all through its calm -/
structure KI (t m : Int) (c : Chan) : Prop where
  ok : OKC m c
  tp : top c = t
  rm : room t c.net c ≤ 4194304
theorem KI.few {t m : Int} {c : Chan} (h : KI t m c) : fewC c := by
  have h1 := h.rm
  unfold room at h1
  exact ⟨by have := h.ok.lq; omega, by omega, by have := h.ok.ln; omega, by have := h.ok.la; omega⟩
theorem KI.send {t m : Int} {c : Chan} (h : KI t m c) : KI t m (sendC c) := by
  refine ⟨h.ok.send, h.tp, Nat.le_trans (Nat.le_of_eq ?_) h.rm⟩
  have ht := h.tp
  unfold top at ht
  unfold room
  have : junk t (sendC c).net = junk t c.net := junk_send _ _ _ _ (by have h9 : (c.queue.take 3).length ≤ c.queue.length := List.length_take_le' _ _; omega)
  rw [this]; rfl
theorem KI.net {t m : Int} {c : Chan} (h : KI t m c) (hm : m < 1000000) (hn : c.net ≠ []) : KI t (m + 1) (moveC c 2 0) := by
  obtain ⟨p, l, hl⟩ : ∃ p l, c.net = p :: l := by cases hc : c.net with | nil => exact absurd hc hn | cons p l => exact ⟨p, l, rfl⟩
  have e1 := (net_step hn).1
  have e2 : moveC c 2 0 = dlv { c with net := l } p := by
    rw [e1, selK_zero]
    unfold netC
    have h0 : c.net[0]? = some p := by rw [hl]; rfl
    rw [h0]
    show (if (2 : Int) = 4 then _ else _) = _
    rw [if_neg (by decide), if_neg (by decide), if_neg (by decide)]
    congr 2
    rw [hl, dropK_zero]
  refine ⟨h.ok.move hm 2 0, ?_, ?_⟩
  · rw [e2]; have := dlv_same { c with net := l } p; unfold top; rw [this.1, this.2]; exact h.tp
  · rw [e2, dlv_net]
    have hr := h.rm
    rw [hl] at hr
    exact Nat.le_trans (room_dlv (l := l) (l2 := l) (c := c)) hr
theorem KI.ack {t m : Int} {c : Chan} (h : KI t m c) (hn : c.acks ≠ []) : KI t m (moveC c 6 0) := by
  obtain ⟨e1, _, _, e4, e5, e6, e7⟩ := ack_step hn
  refine ⟨?_, e7.trans h.tp, ?_⟩
  · rw [e1]; exact h.ok.ack1 6 _
  · unfold room; rw [e4, e5, e6]; exact h.rm
theorem KI.up {t m m' : Int} {c : Chan} (h : KI t m c) (h1 : m ≤ m') (h2 : m' ≤ 1000000) : KI t m' c := ⟨h.ok.up h1 h2, h.tp, h.rm⟩
theorem KI.start {c : Chan} (h : isChan c = true) (hm : bulkC c ≤ 4194304) (hok : okC c) : KI (top c) 0 c := by
  refine ⟨OKC.start h hm hok, rfl, ?_⟩
  unfold isChan at h
  simp only [Bool.and_eq_true, decide_eq_true_eq, List.all_eq_true] at h
  have e := inR_iff.1 h.2.2.2.1
  unfold room junk top
  have := List.length_filter_le (fun p : Packet => decide (c.base + (c.queue.length : Int) ≤ p.number)) c.net
  unfold bulkC at hm
  omega
end Go.Proofs.YtdfemnffpaopfaaGreatDoor

