/- What a move keeps of a channel: short texts, few packets; no string is lost or added beyond measure. No program in sight. -/
import Derived.Test.YtgpmmmfnbphgdaaDoorChnS
namespace Go.Proofs.YtgpmmmfnbphgdaaDoor
open Go.RowKit
set_option linter.unusedVariables false
set_option linter.unusedSimpArgs false
def okPk (p : Packet) : Prop := p.text.size ≤ 1048576 ∧ -9223372036854775808 ≤ p.number ∧ p.number ≤ 9223372036854775807
theorem OKC.netp {m : Int} {c : Chan} (h : OKC m c) : ∀ p ∈ c.net, okPk p := h.net
theorem OKC.ackp {m : Int} {c : Chan} (h : OKC m c) : ∀ p ∈ c.acks, okPk p := h.acks
theorem OKC.up {m m' : Int} {c : Chan} (h : OKC m c) (h1 : m ≤ m') (h2 : m' ≤ 1000000) : OKC m' c :=
  ⟨Int.le_trans h.m0 h1, h2, h.q, h.net, h.acks, h.lq, by have := h.li; omega, h.ln, h.la, h.b0, h.b1, h.e0, by have := h.e1; omega⟩
theorem OKC.withNet {m : Int} {c : Chan} (h : OKC m c) {l : List Packet} (hl : ∀ p ∈ l, okPk p) (h12 : l.length ≤ 12) : OKC m { c with net := l } :=
  ⟨h.m0, h.m1, h.q, hl, h.acks, h.lq, h.li, h12, h.la, h.b0, h.b1, h.e0, h.e1⟩
theorem OKC.withAcks {m : Int} {c : Chan} (h : OKC m c) {l : List Packet} (hl : ∀ p ∈ l, okPk p) (h12 : l.length ≤ 12) : OKC m { c with acks := l } :=
  ⟨h.m0, h.m1, h.q, h.net, hl, h.lq, h.li, h.ln, h12, h.b0, h.b1, h.e0, h.e1⟩
theorem sendL_okP : ∀ (q : List ByteArray) (n : Int) (net : List Packet), (∀ s ∈ q, s.size ≤ 1048576) → 0 ≤ n → n + q.length ≤ 2000000 → (∀ p ∈ net, okPk p) → ∀ p ∈ sendL q n net, okPk p
  | [], n, net, _, _, _, h => h
  | s :: q, n, net, hq, h0, h1, h => by
    simp only [List.length_cons] at h1
    exact sendL_okP q (n + 1) _ (fun t ht => hq t (by simp [ht])) (by omega) (by push_cast at h1; omega) (putK_all h ⟨hq s (by simp), by show _ ≤ n; omega, by show n ≤ _; push_cast at h1; omega⟩)
theorem OKC.send {m : Int} {c : Chan} (h : OKC m c) : OKC m (sendC c) := by
  have h1 := h.b0; have h2 := h.b1; have h3 := h.lq
  refine h.withNet (sendL_okP _ _ _ (fun s hs => h.q s (List.mem_of_mem_take hs)) h1 (by have h9 : (c.queue.take 3).length ≤ c.queue.length := List.length_take_le' _ _; omega) h.netp) (sendL_len _ _ _ h.ln)
theorem OKC.dlv {m : Int} {c : Chan} (h : OKC m c) (hm : m < 1000000) {p : Packet} (hp : okPk p) : OKC (m + 1) (dlv c p) := by
  have hu := h.up (m' := m + 1) (by omega) (by omega)
  have h1 := h.e0; have h2 := h.e1; have h3 := h.li
  have hnil : (⟨#[]⟩ : ByteArray).size ≤ 1048576 := by decide
  unfold Go.Proofs.YtgpmmmfnbphgdaaDoor.dlv
  split
  · split
    · refine ⟨hu.m0, hu.m1, h.q, h.net, putK_all h.ackp ⟨hnil, by show _ ≤ c.expected + 1; omega, by show c.expected + 1 ≤ _; omega⟩, h.lq, ?_, h.ln, putK_len h.la, h.b0, h.b1, by show 0 ≤ c.expected + 1; omega, by show c.expected + 1 ≤ _; omega⟩
      show ((c.inbox ++ [p.text]).length : Int) ≤ _
      simp; omega
    · exact hu.withAcks (putK_all h.ackp ⟨hnil, by show _ ≤ c.expected; omega, by show c.expected ≤ _; omega⟩) (putK_len h.la)
  · exact hu
theorem OKC.ackd {m : Int} {c : Chan} (h : OKC m c) (p : Packet) : OKC m (ackd c p) := by
  have h1 := h.b0; have h2 := h.b1; have h3 := h.lq
  unfold Go.Proofs.YtgpmmmfnbphgdaaDoor.ackd
  split
  · rename_i hc
    obtain ⟨_, _, c1, c2⟩ := hc
    exact ⟨h.m0, h.m1, fun s hs => h.q s (List.mem_of_mem_drop hs), h.net, h.acks, by show (c.queue.drop _).length ≤ 8; simp; omega, h.li, h.ln, h.la, by show 0 ≤ p.number; omega, by show p.number + ((c.queue.drop _).length : Int) ≤ _; simp; omega, h.e0, h.e1⟩
  · exact h
theorem OKC.net1 {m : Int} {c : Chan} (h : OKC m c) (hm : m < 1000000) (mv : Int) (k : Nat) : OKC (m + 1) (netC c mv k) := by
  have hu := h.up (m' := m + 1) (by omega) (by omega)
  unfold netC
  split
  · exact hu
  · rename_i p hp
    have hpm := h.netp p (List.mem_of_getElem? hp)
    split
    · exact hu.withNet (putK_all h.netp hpm) (putK_len h.ln)
    split
    · rw [spoilK_eq hp]
      refine hu.withNet (fun x hx => ?_) (by simpa using h.ln)
      rcases List.mem_or_eq_of_mem_set hx with hx | rfl
      · exact h.netp x hx
      · exact hpm
    split
    · exact hu.withNet (dropK_all h.netp) (dropK_len h.ln)
    · exact (h.withNet (dropK_all h.netp) (dropK_len h.ln)).dlv hm hpm
theorem OKC.ack1 {m : Int} {c : Chan} (h : OKC m c) (mv : Int) (k : Nat) : OKC m (ackC c mv k) := by
  unfold ackC
  split
  · exact h
  · split
    · exact (h.withAcks (dropK_all h.ackp) (dropK_len h.la)).ackd _
    · exact h.withAcks (dropK_all h.ackp) (dropK_len h.la)
theorem OKC.move {m : Int} {c : Chan} (h : OKC m c) (hm : m < 1000000) (mv at_ : Int) : OKC (m + 1) (moveC c mv at_) := by
  have hu := h.up (m' := m + 1) (by omega) (by omega)
  unfold moveC
  split
  · exact hu.send
  split
  · split
    · exact hu
    · exact h.net1 hm mv _
  split
  · split
    · exact hu
    · exact hu.ack1 mv _
  · exact hu
theorem wf_range {n : Int} (h : wfI n) : -9223372036854775808 ≤ n ∧ n ≤ 9223372036854775807 := by
  simp [wfI, Lit.wf, IntKind.min, IntKind.max, IntKind.signed, IntKind.bits] at h
  omega
theorem OKC.start {c : Chan} (h : isChan c = true) (hm : bulkC c ≤ 1048576) (hok : okC c) : OKC 0 c := by
  unfold Go.Proofs.YtgpmmmfnbphgdaaDoor.isChan at h
  simp only [Bool.and_eq_true, decide_eq_true_eq, List.all_eq_true] at h
  obtain ⟨h1, h2, h3, h4, h5, h6⟩ := h
  have b := inR_iff.1 h3; have e := inR_iff.1 h4
  unfold bulkC at hm
  obtain ⟨o0, o1, o2, o3, _, _⟩ := hok
  refine ⟨Int.le_refl _, by omega, fun s hs => by have := h1 s hs; omega, fun p hp => ?_, fun p hp => ?_, h2, by omega, h5, h6, b.1, by omega, by omega, by omega⟩
  · have := mem_bulk (c := Packet.bulk) hp
    have hw := wf_range (o2 p hp).2.1
    simp only [Packet.bulk] at this
    exact ⟨by omega, hw⟩
  · have := mem_bulk (c := Packet.bulk) hp
    have hw := wf_range (o3 p hp).2.1
    simp only [Packet.bulk] at this
    exact ⟨by omega, hw⟩
/-! ### how long the inbox grows -/
def top (c : Chan) : Int := c.base + c.queue.length
def junk (t : Int) (l : List Packet) : Nat := (l.filter fun p => decide (t ≤ p.number)).length
/-- strings that came in, and that can come in at most -/
def room (t : Int) (l : List Packet) (c : Chan) : Nat := c.inbox.length + (t - c.expected).toNat + junk t l
theorem room_dlv {t : Int} {p : Packet} {l l2 : List Packet} {c : Chan} : room t l (dlv { c with net := l2 } p) ≤ room t (p :: l) c := by
  unfold room junk
  rw [List.filter_cons]
  unfold dlv
  split
  · split
    · rename_i hn
      have hn' : p.number = c.expected := hn
      show (c.inbox ++ [p.text]).length + (t - (c.expected + 1)).toNat + _ ≤ c.inbox.length + (t - c.expected).toNat + _
      by_cases ht : t ≤ p.number
      · rw [if_pos (by simpa using ht)]
        simp only [List.length_append, List.length_cons, List.length_nil]; omega
      · rw [if_neg (by simpa using ht)]
        simp only [List.length_append, List.length_cons, List.length_nil]; omega
    · show c.inbox.length + (t - c.expected).toNat + _ ≤ _
      split
      · simp only [List.length_cons]; omega
      · exact Nat.le_refl _
  · show c.inbox.length + (t - c.expected).toNat + _ ≤ _
    split
    · simp only [List.length_cons]; omega
    · exact Nat.le_refl _
theorem room_netAll : ∀ (l : List Packet) (c : Chan) (t : Int), room t [] (netAll l c) ≤ room t l c
  | [], c, t => Nat.le_refl _
  | p :: l, c, t => Nat.le_trans (room_netAll l _ t) room_dlv
theorem junk_put {t : Int} {l : List Packet} {p : Packet} (h : p.number < t) : junk t (putK l p) = junk t l := by
  unfold junk putK
  split
  · rfl
  · rw [List.filter_append]; simp; omega
theorem junk_send : ∀ (q : List ByteArray) (n t : Int) (net : List Packet), n + q.length ≤ t → junk t (sendL q n net) = junk t net
  | [], n, t, net, _ => rfl
  | s :: q, n, t, net, h => by
    simp only [List.length_cons] at h
    rw [sendL, junk_send q (n + 1) t _ (by push_cast at h; omega), junk_put (by show n < t; push_cast at h; omega)]
theorem ackAll_same : ∀ (l : List Packet) (c : Chan), (ackAll l c).inbox = c.inbox ∧ (ackAll l c).expected = c.expected ∧ top (ackAll l c) = top c
  | [], c => ⟨rfl, rfl, rfl⟩
  | p :: l, c => by
    obtain ⟨h1, h2, h3⟩ := ackAll_same l (ackd { c with acks := l } p)
    have e1 : (ackd { c with acks := l } p).inbox = c.inbox := by unfold ackd; split <;> rfl
    have e2 : (ackd { c with acks := l } p).expected = c.expected := by unfold ackd; split <;> rfl
    have e3 : top (ackd { c with acks := l } p) = top c := by unfold top; exact ackd_bq { c with acks := l } p
    exact ⟨h1.trans e1, h2.trans e2, h3.trans e3⟩
theorem top_netAll (l : List Packet) (c : Chan) : top (netAll l c) = top c := by
  have h := netAll_same l c
  unfold top; rw [h.1, h.2]
theorem room_calm1 (c : Chan) : room (top c) [] (calm1 c) ≤ room (top c) c.net c ∧ top (calm1 c) = top c := by
  unfold calm1
  have ha := ackAll_same (netAll (sendC c).net (sendC c)).acks (netAll (sendC c).net (sendC c))
  have ht : top (sendC c) = top c := rfl
  have hn := room_netAll (sendC c).net (sendC c) (top c)
  refine ⟨?_, by rw [ha.2.2, top_netAll]; rfl⟩
  have e : room (top c) (sendC c).net (sendC c) = room (top c) c.net c := by
    unfold room
    have : junk (top c) (sendC c).net = junk (top c) c.net := junk_send _ _ _ _ (by unfold top; have h9 : (c.queue.take 3).length ≤ c.queue.length := List.length_take_le' _ _; omega)
    rw [this]; rfl
  rw [e] at hn
  refine Nat.le_trans (Nat.le_of_eq ?_) hn
  unfold room
  rw [ha.1, ha.2.1]
theorem room_calmN : ∀ (n : Nat) (c : Chan) (t : Int), c.net = [] → top c = t → (calmN n c).inbox.length ≤ room t [] c
  | 0, c, t, _, _ => by unfold room; show c.inbox.length ≤ _; omega
  | n + 1, c, t, hn, ht => by
    have h1 := room_calm1 c
    have he := (calm1_empty c).1
    have h2 := room_calmN n (calm1 c) t he (h1.2.trans ht)
    rw [hn, ht] at h1
    exact Nat.le_trans h2 h1.1
/-- the inbox of a calmed channel is not longer than all that was there -/
theorem calm_inbox {c : Chan} (h : isChan c = true) : (calmC c).inbox.length ≤ c.inbox.length + c.queue.length + c.net.length := by
  unfold calmC
  rw [if_pos h]
  unfold isChan at h
  simp only [Bool.and_eq_true, decide_eq_true_eq, List.all_eq_true] at h
  have e := inR_iff.1 h.2.2.2.1
  have h1 := room_calm1 c
  have h2 := room_calmN 8 (calm1 c) (top c) (calm1_empty c).1 h1.2
  have h3 : room (top c) c.net c ≤ c.inbox.length + c.queue.length + c.net.length := by
    unfold room junk top
    have := List.length_filter_le (fun p : Packet => decide (c.base + (c.queue.length : Int) ≤ p.number)) c.net
    omega
  exact Nat.le_trans h2 (Nat.le_trans h1.1 h3)
theorem dlv_inbox (c : Chan) (p : Packet) : (dlv c p).inbox.length ≤ c.inbox.length + 1 := by
  unfold dlv
  split
  · split
    · show (c.inbox ++ [p.text]).length ≤ _; simp
    · show c.inbox.length ≤ _; omega
  · omega
theorem moveC_inbox (c : Chan) (mv at_ : Int) : (moveC c mv at_).inbox.length ≤ c.inbox.length + c.net.length := by
  unfold moveC
  split
  · show c.inbox.length ≤ _; omega
  split
  · split
    · omega
    · unfold netC
      split
      · omega
      · rename_i p hp
        have hl := (List.getElem?_eq_some_iff.1 hp).1
        split
        · show c.inbox.length ≤ _; omega
        split
        · show c.inbox.length ≤ _; omega
        split
        · show c.inbox.length ≤ _; omega
        · have := dlv_inbox { c with net := dropK c.net (selK at_ c.net.length) } p
          simp only at this
          omega
  split
  · split
    · omega
    · unfold ackC
      split
      · omega
      · split
        · unfold ackd; split
          · show c.inbox.length ≤ _; omega
          · show c.inbox.length ≤ _; omega
        · show c.inbox.length ≤ _; omega
  · omega
theorem fewC_step {c : Chan} (hm : bulkC c ≤ 1048576) (hok : okC c) (mv at_ : Int) : fewC (stepC c mv at_) := by
  have hf := fewC_of hm
  unfold stepC
  split
  · rename_i h
    have h1 := (OKC.start h hm hok).move (by omega) mv at_
    have h2 := moveC_inbox c mv at_
    unfold bulkC at hm
    exact ⟨by have := h1.lq; omega, by omega, by have := h1.ln; omega, by have := h1.la; omega⟩
  · exact hf
end Go.Proofs.YtgpmmmfnbphgdaaDoor
