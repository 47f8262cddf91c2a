/- The moves of a channel as data; a channel delivers what was offered, in order and once. No program in sight. -/
import Derived.Test.YtgpmmmfnbphgdaaDoorFmtP
import Derived.Test.YtgpmmmfnbphgdaaDoorData
namespace Go.Proofs.YtgpmmmfnbphgdaaDoor
open Go.RowKit
set_option linter.unusedVariables false
set_option linter.unusedSimpArgs false

def newPkt (ack : Bool) (n : Int) (t : ByteArray) : Packet := ⟨ack, n, t, pktSum n t ack⟩
def intact (p : Packet) : Bool := p.sum == pktSum p.number p.text p.ack
def putK (l : List Packet) (p : Packet) : List Packet := if 12 ≤ l.length then l else l ++ [p]
def dropK (l : List Packet) (k : Nat) : List Packet := l.take k ++ l.drop (k + 1)
/-- send strings q, numbered from n -/
def sendL : List ByteArray → Int → List Packet → List Packet
  | [], _, net => net
  | s :: q, n, net => sendL q (n + 1) (putK net (newPkt false n s))
def sendC (c : Chan) : Chan := { c with net := sendL (c.queue.take 3) c.base c.net }
/-- a packet comes in -/
def dlv (c : Chan) (p : Packet) : Chan :=
  if intact p = true ∧ p.ack = false then
    (if p.number = c.expected then { c with inbox := c.inbox ++ [p.text], expected := c.expected + 1, acks := putK c.acks (newPkt true (c.expected + 1) ⟨#[]⟩) }
     else { c with acks := putK c.acks (newPkt true c.expected ⟨#[]⟩) })
  else c
/-- an acknowledgement comes in -/
def ackd (c : Chan) (p : Packet) : Chan :=
  if intact p = true ∧ p.ack = true ∧ c.base < p.number ∧ p.number ≤ c.base + c.queue.length then { c with queue := c.queue.drop (p.number - c.base).toNat, base := p.number } else c
def spoilK (l : List Packet) (k : Nat) : List Packet := match l[k]? with | some p => l.set k { p with sum := IntKind.i64.wrap (p.sum + 1) } | none => l
def netC (c : Chan) (move : Int) (k : Nat) : Chan :=
  match c.net[k]? with
  | none => c
  | some p =>
    if move = 4 then { c with net := putK c.net p }
    else if move = 5 then { c with net := spoilK c.net k }
    else if move = 3 then { c with net := dropK c.net k }
    else dlv { c with net := dropK c.net k } p
def ackC (c : Chan) (move : Int) (k : Nat) : Chan :=
  match c.acks[k]? with
  | none => c
  | some p => if move = 6 then ackd { c with acks := dropK c.acks k } p else { c with acks := dropK c.acks k }
/-- at modulo n -/
def selK (at_ : Int) (n : Nat) : Nat := (at_ % (n : Int)).toNat
def moveC (c : Chan) (move at_ : Int) : Chan :=
  if move = 1 then sendC c
  else if 2 ≤ move ∧ move ≤ 5 then (if c.net = [] then c else netC c move (selK at_ c.net.length))
  else if 6 ≤ move ∧ move ≤ 7 then (if c.acks = [] then c else ackC c move (selK at_ c.acks.length))
  else c
def stepC (c : Chan) (move at_ : Int) : Chan := if isChan c = true then moveC c move at_ else c
/-- all packets come in, one by one -/
def netAll : List Packet → Chan → Chan
  | [], c => c
  | p :: l, c => netAll l (dlv { c with net := l } p)
def ackAll : List Packet → Chan → Chan
  | [], c => c
  | p :: l, c => ackAll l (ackd { c with acks := l } p)
def calm1 (c : Chan) : Chan :=
  let d := sendC c
  let e := netAll d.net d
  ackAll e.acks e
def calmN : Nat → Chan → Chan
  | 0, c => c
  | n + 1, c => calmN n (calm1 c)
def calmC (c : Chan) : Chan := if isChan c = true then calmN 9 c else c
def takeC0 (c : Chan) : Chan := { c with inbox := [] }
def offerC0 (c : Chan) (s : ByteArray) : Chan := { c with queue := c.queue ++ [s] }

/-! ### a channel of FnChannel -/
theorem selK_lt {a : Int} {n : Nat} (h : 0 < n) : selK a n < n := by
  have h1 := Int.emod_nonneg a (show (n : Int) ≠ 0 by omega)
  have h2 := Int.emod_lt_of_pos a (show (0 : Int) < n by omega)
  unfold selK; omega
theorem putK_len {l : List Packet} {p : Packet} (h : l.length ≤ 12) : (putK l p).length ≤ 12 := by
  unfold putK; split
  · exact h
  · simp; omega
theorem putK_all {P : Packet → Prop} {l : List Packet} {p : Packet} (h : ∀ x ∈ l, P x) (hp : P p) : ∀ x ∈ putK l p, P x := by
  unfold putK; split
  · exact h
  · intro x hx; rcases List.mem_append.1 hx with hx | hx
    · exact h x hx
    · simp at hx; subst hx; exact hp
theorem dropK_all {P : Packet → Prop} {l : List Packet} {k : Nat} (h : ∀ x ∈ l, P x) : ∀ x ∈ dropK l k, P x := by
  intro x hx
  rcases List.mem_append.1 hx with hx | hx
  · exact h x (List.mem_of_mem_take hx)
  · exact h x (List.mem_of_mem_drop hx)
theorem dropK_len {l : List Packet} {k : Nat} (h : l.length ≤ 12) : (dropK l k).length ≤ 12 := by unfold dropK; simp; omega
theorem dropK_len' {l : List Packet} {k : Nat} (h : k < l.length) : (dropK l k).length + 1 = l.length := by unfold dropK; simp; omega
theorem dropK_zero (p : Packet) (l : List Packet) : dropK (p :: l) 0 = l := by simp [dropK]

/-- a packet on its way: a string that was offered, spoiled at most m times -/
def NetOk (want : List ByteArray) (m : Nat) (p : Packet) : Prop := p.ack = false ∧ ∃ i : Nat, want[i]? = some p.text ∧ p.number = i ∧ ∃ j : Nat, j ≤ m ∧ p.sum = pktSum p.number p.text p.ack + j
def AckOk (e : Int) (p : Packet) : Prop := p.ack = true ∧ 0 ≤ p.number ∧ p.number ≤ e
structure ChInv (want got : List ByteArray) (m : Nat) (c : Chan) : Prop where
  b0 : 0 ≤ c.base
  be : c.base ≤ c.expected
  ew : c.expected ≤ want.length
  q : c.queue = want.drop c.base.toNat
  q8 : c.queue.length ≤ 8
  bq : c.base + c.queue.length = want.length
  inb : got ++ c.inbox = want.take c.expected.toNat
  net : ∀ p ∈ c.net, NetOk want m p
  n12 : c.net.length ≤ 12
  acks : ∀ p ∈ c.acks, AckOk c.expected p
  a12 : c.acks.length ≤ 12
theorem pktSum_bd (n : Int) (t : ByteArray) (a : Bool) : 0 ≤ pktSum n t a ∧ pktSum n t a ≤ 65520 := chk_bound _
theorem AckOk.mono {e e' : Int} {p : Packet} (h : AckOk e p) (he : e ≤ e') : AckOk e' p := ⟨h.1, h.2.1, by have := h.2.2; omega⟩
theorem NetOk.mono {want : List ByteArray} {m m' : Nat} {p : Packet} (h : NetOk want m p) (he : m ≤ m') : NetOk want m' p := by
  obtain ⟨h1, i, h2, h3, j, h4, h5⟩ := h
  exact ⟨h1, i, h2, h3, j, by omega, h5⟩
theorem NetOk.more {want : List ByteArray} {m : Nat} {p : Packet} (h : NetOk want m p) (s : ByteArray) : NetOk (want ++ [s]) m p := by
  obtain ⟨h1, i, h2, h3, h4⟩ := h
  refine ⟨h1, i, ?_, h3, h4⟩
  rw [List.getElem?_append_left (List.getElem?_eq_some_iff.1 h2).1]; exact h2
theorem ChInv.isChan {want got : List ByteArray} {m : Nat} {c : Chan} (h : ChInv want got m c) (hw : want.length ≤ 1000) (hs : ∀ s ∈ want, s.size ≤ 300) : isChan c = true := by
  have h1 := h.b0; have h2 := h.be; have h3 := h.ew; have h4 := h.q8; have h5 := h.bq
  unfold Go.Proofs.YtgpmmmfnbphgdaaDoor.isChan
  simp only [Bool.and_eq_true, decide_eq_true_eq, List.all_eq_true]
  refine ⟨fun s hq => hs s ?_, h4, inR_iff.2 ⟨h1, by omega⟩, inR_iff.2 ⟨h2, by omega⟩, h.n12, h.a12⟩
  rw [h.q] at hq; exact List.mem_of_mem_drop hq
theorem ChInv.offer {want got : List ByteArray} {m : Nat} {c : Chan} (h : ChInv want got m c) (hq : c.queue.length < 8) (s : ByteArray) : ChInv (want ++ [s]) got m (offerC0 c s) := by
  have h1 := h.b0; have h2 := h.be; have h3 := h.ew; have h4 := h.q8; have h5 := h.bq
  refine ⟨h1, h2, by simp [offerC0]; omega, ?_, by simp [offerC0]; omega, by simp [offerC0]; omega, ?_, fun p hp => (h.net p hp).more s, h.n12, h.acks, h.a12⟩
  · show c.queue ++ [s] = _
    show _ = (want ++ [s]).drop c.base.toNat
    rw [List.drop_append_of_le_length (by omega), ← h.q]
  · show got ++ c.inbox = _
    rw [List.take_append_of_le_length (by show c.expected.toNat ≤ _; omega)]
    exact h.inb
theorem ChInv.take {want got : List ByteArray} {m : Nat} {c : Chan} (h : ChInv want got m c) : ChInv want (got ++ c.inbox) m (takeC0 c) :=
  ⟨h.b0, h.be, h.ew, h.q, h.q8, h.bq, by show (got ++ c.inbox) ++ [] = _; rw [List.append_nil]; exact h.inb, h.net, h.n12, h.acks, h.a12⟩
theorem sendL_ok {want : List ByteArray} {m : Nat} : ∀ (q : List ByteArray) (n : Nat) (net : List Packet), (∀ (j : Nat) (s : ByteArray), q[j]? = some s → want[n + j]? = some s) → (∀ p ∈ net, NetOk want m p) → net.length ≤ 12 →
    (∀ p ∈ sendL q (n : Int) net, NetOk want m p) ∧ (sendL q (n : Int) net).length ≤ 12
  | [], n, net, _, h, hl => ⟨h, hl⟩
  | s :: q, n, net, hq, h, hl => by
    have := sendL_ok (m := m) q (n + 1) (putK net (newPkt false n s)) (fun j t ht => by have := hq (j + 1) t (by simpa using ht); rw [show n + 1 + j = n + (j + 1) by omega]; exact this)
      (putK_all h ⟨rfl, n, by have := hq 0 s rfl; simpa [newPkt] using this, rfl, 0, Nat.zero_le _, by simp [newPkt]⟩) (putK_len hl)
    simpa [sendL] using this
theorem ChInv.send {want got : List ByteArray} {m : Nat} {c : Chan} (h : ChInv want got m c) : ChInv want got m (sendC c) := by
  obtain ⟨b, hb⟩ := Int.eq_ofNat_of_zero_le h.b0
  have := sendL_ok (want := want) (m := m) (c.queue.take 3) b c.net (fun j s hs => by
    rw [h.q, hb, List.getElem?_take] at hs
    split at hs
    · rw [Int.toNat_natCast, List.getElem?_drop] at hs; exact hs
    · cases hs) h.net h.n12
  rw [← hb] at this
  exact ⟨h.b0, h.be, h.ew, h.q, h.q8, h.bq, h.inb, this.1, this.2, h.acks, h.a12⟩
/-- the state but for Net -/
theorem ChInv.withNet {want got : List ByteArray} {m m' : Nat} {c : Chan} (h : ChInv want got m c) {l : List Packet} (hl : ∀ p ∈ l, NetOk want m' p) (h12 : l.length ≤ 12) : ChInv want got m' { c with net := l } :=
  ⟨h.b0, h.be, h.ew, h.q, h.q8, h.bq, h.inb, hl, h12, h.acks, h.a12⟩
theorem ChInv.withAcks {want got : List ByteArray} {m : Nat} {c : Chan} (h : ChInv want got m c) {l : List Packet} (hl : ∀ p ∈ l, AckOk c.expected p) (h12 : l.length ≤ 12) : ChInv want got m { c with acks := l } :=
  ⟨h.b0, h.be, h.ew, h.q, h.q8, h.bq, h.inb, h.net, h.n12, hl, h12⟩
theorem take_snoc_of {α : Type} {l : List α} {i : Nat} {x : α} (h : l[i]? = some x) : l.take i ++ [x] = l.take (i + 1) := by
  obtain ⟨hi, rfl⟩ := List.getElem?_eq_some_iff.1 h
  simp
theorem ChInv.dlv {want got : List ByteArray} {m : Nat} {c : Chan} (h : ChInv want got m c) {p : Packet} (hp : NetOk want m p) : ChInv want got m (dlv c p) := by
  have h1 := h.b0; have h2 := h.be; have h3 := h.ew; have h5 := h.bq
  obtain ⟨ha, i, hi, hn, j, hj, hs⟩ := hp
  have hil := (List.getElem?_eq_some_iff.1 hi).1
  unfold Go.Proofs.YtgpmmmfnbphgdaaDoor.dlv
  split
  · split
    · rename_i he
      refine ⟨h1, by show c.base ≤ c.expected + 1; omega, by show c.expected + 1 ≤ _; omega, h.q, h.q8, h5, ?_, h.net, h.n12, ?_, putK_len h.a12⟩
      · show got ++ (c.inbox ++ [p.text]) = want.take (c.expected + 1).toNat
        rw [← List.append_assoc, h.inb]
        have e1 : c.expected.toNat = i := by omega
        have e2 : (c.expected + 1).toNat = i + 1 := by omega
        rw [e1, e2]
        exact take_snoc_of hi
      · exact putK_all (fun x hx => (h.acks x hx).mono (by show c.expected ≤ c.expected + 1; omega)) ⟨rfl, by show 0 ≤ c.expected + 1; omega, Int.le_refl _⟩
    · exact h.withAcks (putK_all h.acks ⟨rfl, by show 0 ≤ c.expected; omega, Int.le_refl _⟩) (putK_len h.a12)
  · exact h
theorem ChInv.ackd {want got : List ByteArray} {m : Nat} {c : Chan} (h : ChInv want got m c) {p : Packet} (hp : AckOk c.expected p) : ChInv want got m (ackd c p) := by
  have h1 := h.b0; have h2 := h.be; have h3 := h.ew; have h5 := h.bq; have h4 := h.q8
  obtain ⟨ha, hn0, hn1⟩ := hp
  unfold Go.Proofs.YtgpmmmfnbphgdaaDoor.ackd
  split
  · rename_i hc
    obtain ⟨_, _, c1, c2⟩ := hc
    refine ⟨hn0, hn1, h3, ?_, by show (c.queue.drop _).length ≤ 8; simp; omega, by show p.number + ((c.queue.drop _).length : Int) = _; simp; omega, h.inb, h.net, h.n12, h.acks, h.a12⟩
    show c.queue.drop _ = _
    rw [h.q, List.drop_drop]
    congr 1; show _ = p.number.toNat; omega
  · exact h
theorem spoil_ok {want : List ByteArray} {m : Nat} {l : List Packet} (hm : m ≤ 1000) (h : ∀ p ∈ l, NetOk want m p) (k : Nat) : (∀ p ∈ spoilK l k, NetOk want (m + 1) p) ∧ (spoilK l k).length = l.length := by
  unfold spoilK
  split
  · rename_i p hp
    refine ⟨fun x hx => ?_, by simp⟩
    rcases List.mem_or_eq_of_mem_set hx with hx | rfl
    · exact (h x hx).mono (by omega)
    · obtain ⟨h1, i, h2, h3, j, h4, h5⟩ := h p (List.mem_of_getElem? hp)
      refine ⟨h1, i, h2, h3, j + 1, by omega, ?_⟩
      have hb := pktSum_bd p.number p.text p.ack
      show IntKind.i64.wrap (p.sum + 1) = _
      rw [IntKind.wrap_i64]
      show _ = pktSum p.number p.text p.ack + _
      omega
  · exact ⟨fun x hx => (h x hx).mono (by omega), rfl⟩
theorem ChInv.move {want got : List ByteArray} {m : Nat} {c : Chan} (h : ChInv want got m c) (hm : m ≤ 1000) (move at_ : Int) : ChInv want got (m + 1) (moveC c move at_) := by
  have hup : ChInv want got (m + 1) c := h.withNet (fun p hp => (h.net p hp).mono (by omega)) h.n12
  unfold moveC
  split
  · exact hup.send
  split
  · split
    · exact hup
    · rename_i hne
      have hk := selK_lt (a := at_) (n := c.net.length) (by cases hc : c.net with | nil => exact absurd hc hne | cons => simp)
      unfold netC
      rw [List.getElem?_eq_getElem hk]
      dsimp only
      have hp := h.net _ (List.getElem_mem hk)
      split
      · exact h.withNet (putK_all (fun p hp => (h.net p hp).mono (by omega)) (hp.mono (by omega))) (putK_len h.n12)
      split
      · have := spoil_ok hm h.net (selK at_ c.net.length)
        exact h.withNet this.1 (by rw [this.2]; exact h.n12)
      have hd := hup.withNet (dropK_all (k := selK at_ c.net.length) hup.net) (dropK_len h.n12)
      split
      · exact hd
      · exact hd.dlv (hp.mono (by omega))
  split
  · split
    · exact hup
    · rename_i hne
      have hk := selK_lt (a := at_) (n := c.acks.length) (by cases hc : c.acks with | nil => exact absurd hc hne | cons => simp)
      unfold ackC
      rw [List.getElem?_eq_getElem hk]
      dsimp only
      have hp := h.acks _ (List.getElem_mem hk)
      have hd := hup.withAcks (dropK_all (k := selK at_ c.acks.length) hup.acks) (dropK_len h.a12)
      split
      · exact hd.ackd hp
      · exact hd
  · exact hup

/-! ### the calm -/
theorem ChInv.netAll {want got : List ByteArray} {m : Nat} : ∀ (l : List Packet) {c : Chan}, ChInv want got m c → (∀ p ∈ l, NetOk want m p) → l.length ≤ 12 → ChInv want got m (netAll l c)
  | [], _, h, _, _ => h
  | p :: l, c, h, hl, h12 => ChInv.netAll l ((h.withNet (fun x hx => hl x (by simp [hx])) (by simp at h12; omega)).dlv (hl p (by simp))) (fun x hx => hl x (by simp [hx])) (by simp at h12; omega)
theorem ackd_exp (c : Chan) (p : Packet) : (ackd c p).expected = c.expected := by unfold ackd; split <;> rfl
theorem ChInv.ackAll {want got : List ByteArray} {m : Nat} : ∀ (l : List Packet) {c : Chan}, ChInv want got m c → (∀ p ∈ l, AckOk c.expected p) → l.length ≤ 12 → ChInv want got m (ackAll l c)
  | [], _, h, _, _ => h
  | p :: l, c, h, hl, h12 => ChInv.ackAll l ((h.withAcks (fun x hx => hl x (by simp [hx])) (by simp at h12; omega)).ackd (hl p (by simp))) (fun x hx => by rw [ackd_exp]; exact hl x (by simp [hx])) (by simp at h12; omega)
theorem ChInv.calm1 {want got : List ByteArray} {m : Nat} {c : Chan} (h : ChInv want got m c) : ChInv want got m (calm1 c) := by
  have h1 := h.send
  have h2 := h1.netAll _ h1.net h1.n12
  exact h2.ackAll _ h2.acks h2.a12
theorem dlv_net (c : Chan) (p : Packet) : (dlv c p).net = c.net := by unfold dlv; repeat (first | rfl | split)
theorem ackd_net (c : Chan) (p : Packet) : (ackd c p).net = c.net := by unfold ackd; split <;> rfl
theorem ackd_acks (c : Chan) (p : Packet) : (ackd c p).acks = c.acks := by unfold ackd; split <;> rfl
theorem netAll_net : ∀ (l : List Packet) (c : Chan), c.net = l → (netAll l c).net = []
  | [], c, h => h
  | p :: l, c, h => netAll_net l _ (by rw [dlv_net])
theorem ackAll_net : ∀ (l : List Packet) (c : Chan), (ackAll l c).net = c.net
  | [], c => rfl
  | p :: l, c => by rw [ackAll, ackAll_net l]; rw [ackd_net]
theorem ackAll_acks : ∀ (l : List Packet) (c : Chan), c.acks = l → (ackAll l c).acks = []
  | [], c, h => h
  | p :: l, c, h => ackAll_acks l _ (by rw [ackd_acks])
theorem calm1_empty (c : Chan) : (calm1 c).net = [] ∧ (calm1 c).acks = [] :=
  ⟨by unfold calm1; rw [ackAll_net]; exact netAll_net _ _ rfl, by unfold calm1; exact ackAll_acks _ _ rfl⟩
theorem dlv_same (c : Chan) (p : Packet) : (dlv c p).base = c.base ∧ (dlv c p).queue = c.queue := by unfold dlv; repeat (first | exact ⟨rfl, rfl⟩ | split)
theorem netAll_same : ∀ (l : List Packet) (c : Chan), (netAll l c).base = c.base ∧ (netAll l c).queue = c.queue
  | [], c => ⟨rfl, rfl⟩
  | p :: l, c => by
    have h1 := netAll_same l (dlv { c with net := l } p)
    have h2 := dlv_same { c with net := l } p
    exact ⟨h1.1.trans h2.1, h1.2.trans h2.2⟩
theorem intact_mk (a : Bool) (n : Int) (t : ByteArray) : intact (newPkt a n t) = true := by simp [intact, newPkt]
theorem dlv_exp (c : Chan) (p : Packet) : c.expected ≤ (dlv c p).expected := by
  unfold dlv
  split
  · split
    · show c.expected ≤ c.expected + 1; omega
    · exact Int.le_refl _
  · exact Int.le_refl _
theorem netAll_exp : ∀ (l : List Packet) (c : Chan), c.expected ≤ (netAll l c).expected
  | [], c => Int.le_refl _
  | p :: l, c => Int.le_trans (dlv_exp { c with net := l } p) (netAll_exp l _)
/-- acks: the packets in the list acknowledge no more than what was expected; the last acknowledges all -/
def AcksGood (c : Chan) : Prop := (∀ p ∈ c.acks, intact p = true ∧ p.ack = true ∧ p.number ≤ c.expected) ∧ ∃ p ∈ c.acks, p.number = c.expected
theorem putK_mem {l : List Packet} {p : Packet} (h : l.length < 12) : p ∈ putK l p := by unfold putK; rw [if_neg (by omega)]; simp
theorem dlv_good {c : Chan} {p : Packet} (hi : intact p = true) (ha : p.ack = false) (hl : c.acks.length < 12) (h : ∀ p ∈ c.acks, intact p = true ∧ p.ack = true ∧ p.number ≤ c.expected) : AcksGood (dlv c p) := by
  unfold dlv
  rw [if_pos ⟨hi, ha⟩]
  split
  · refine ⟨putK_all (fun x hx => ⟨(h x hx).1, (h x hx).2.1, by show x.number ≤ c.expected + 1; have := (h x hx).2.2; omega⟩) ⟨intact_mk _ _ _, rfl, Int.le_refl _⟩, newPkt true (c.expected + 1) ⟨#[]⟩, putK_mem hl, rfl⟩
  · exact ⟨putK_all h ⟨intact_mk _ _ _, rfl, Int.le_refl _⟩, newPkt true c.expected ⟨#[]⟩, putK_mem hl, rfl⟩
theorem dlv_acks_len (c : Chan) (p : Packet) : (dlv c p).acks.length ≤ c.acks.length + 1 := by
  have hp : ∀ q, (putK c.acks q).length ≤ c.acks.length + 1 := fun q => by
    unfold putK; split
    · omega
    · simp
  unfold dlv
  split
  · split
    · exact hp _
    · exact hp _
  · omega
theorem netAll_good : ∀ (l : List Packet) (c : Chan), (∀ p ∈ l, intact p = true ∧ p.ack = false) → c.acks.length + l.length ≤ 12 → (∀ p ∈ c.acks, intact p = true ∧ p.ack = true ∧ p.number ≤ c.expected) → (AcksGood c ∨ l ≠ []) → AcksGood (netAll l c)
  | [], c, _, _, _, h => by rcases h with h | h; exact h; exact absurd rfl h
  | p :: l, c, hl, h12, ha, _ => by
    have h1 := hl p (by simp)
    have hg := dlv_good (c := { c with net := l }) h1.1 h1.2 (by show c.acks.length < 12; simp at h12; omega) ha
    have hlen := dlv_acks_len { c with net := l } p
    exact netAll_good l _ (fun x hx => hl x (by simp [hx])) (by simp at h12 hlen; omega) hg.1 (.inl hg)
theorem ackd_ge (c : Chan) (p : Packet) : c.base ≤ (ackd c p).base := by
  unfold ackd; split
  · rename_i h; have := h.2.2.1; show c.base ≤ p.number; omega
  · exact Int.le_refl _
theorem ackAll_ge : ∀ (l : List Packet) (c : Chan), c.base ≤ (ackAll l c).base
  | [], c => Int.le_refl _
  | p :: l, c => Int.le_trans (ackd_ge { c with acks := l } p) (ackAll_ge l _)
theorem ackd_bq (c : Chan) (p : Packet) : (ackd c p).base + (ackd c p).queue.length = c.base + c.queue.length := by
  unfold ackd; split
  · rename_i h; obtain ⟨_, _, h1, h2⟩ := h; show p.number + ((c.queue.drop _).length : Int) = _; simp; omega
  · rfl
/-- an intact acknowledgement of n: at the end the base is at least n -/
theorem ackAll_reach : ∀ (l : List Packet) (c : Chan) (n : Int), (∀ p ∈ l, intact p = true ∧ p.ack = true ∧ p.number ≤ n) → n ≤ c.base + c.queue.length → (∃ p ∈ l, p.number = n) → n ≤ (ackAll l c).base
  | [], c, n, _, _, h => by obtain ⟨p, hp, _⟩ := h; cases hp
  | p :: l, c, n, hl, hn, h => by
    rw [ackAll]
    by_cases hpn : p.number = n
    · refine Int.le_trans ?_ (ackAll_ge l _)
      have h1 := hl p (by simp)
      by_cases hb : c.base < n
      · unfold ackd
        rw [if_pos ⟨h1.1, h1.2.1, by show c.base < p.number; omega, by show p.number ≤ c.base + c.queue.length; omega⟩]
        show n ≤ p.number; omega
      · exact Int.le_trans (by show n ≤ c.base; omega) (ackd_ge { c with acks := l } p)
    · refine ackAll_reach l _ n (fun x hx => hl x (by simp [hx])) (by rw [ackd_bq]; exact hn) ?_
      obtain ⟨x, hx, he⟩ := h
      rcases List.mem_cons.1 hx with rfl | hx
      · exact absurd he hpn
      · exact ⟨x, hx, he⟩
theorem sendL_free : ∀ (q : List ByteArray) (n : Int) (net : List Packet), net.length + q.length ≤ 12 → ∃ l, sendL q n net = net ++ l ∧ l.length = q.length ∧ (∀ p ∈ l, intact p = true ∧ p.ack = false) ∧ (∀ (j : Nat) (p : Packet), l[j]? = some p → p.number = n + j)
  | [], n, net, _ => ⟨[], by simp [sendL], rfl, by simp, by simp⟩
  | s :: q, n, net, h => by
    simp only [List.length_cons] at h
    obtain ⟨l, h1, h2, h3, h4⟩ := sendL_free q (n + 1) (net ++ [newPkt false n s]) (by simp; omega)
    refine ⟨newPkt false n s :: l, ?_, by simp [h2], ?_, ?_⟩
    · rw [sendL, putK, if_neg (by omega), h1]; simp
    · intro p hp
      rcases List.mem_cons.1 hp with rfl | hp
      · exact ⟨intact_mk _ _ _, rfl⟩
      · exact h3 p hp
    · intro j p hp
      cases j with
      | zero => simp at hp; subst hp; simp [newPkt]
      | succ j => simp only [List.getElem?_cons_succ] at hp; have := h4 j p hp; push_cast; omega
/-- from an empty net a calm round takes at least one string off the queue -/
theorem calm1_less {want got : List ByteArray} {m : Nat} {c : Chan} (h : ChInv want got m c) (hn : c.net = []) (ha : c.acks = []) (hq : c.queue ≠ []) : c.base < (calm1 c).base := by
  have h1 := h.b0; have h2 := h.be; have h3 := h.ew; have h5 := h.bq; have h4 := h.q8
  have hq0 : 0 < c.queue.length := by cases hc : c.queue with | nil => exact absurd hc hq | cons => simp
  obtain ⟨l, e1, e2, e3, e4⟩ := sendL_free (c.queue.take 3) c.base c.net (by rw [hn]; simp; omega)
  rw [hn, List.nil_append] at e1
  have hsn : (sendC c).net = l := by show sendL _ _ c.net = l; rw [hn, e1]
  have hs := h.send
  have hl0 : 0 < l.length := by rw [e2]; simp; omega
  have hl3 : l.length ≤ 3 := by rw [e2]; simp; omega
  have hg : AcksGood (netAll l (sendC c)) := netAll_good l (sendC c) e3 (by show c.acks.length + _ ≤ _; rw [ha]; simp; omega) (by intro p hp; have : p ∈ c.acks := hp; rw [ha] at this; cases this) (.inr (by intro e; rw [e] at hl0; simp at hl0))
  have hsame := netAll_same l (sendC c)
  have hinv := hs.netAll l (by rw [← hsn]; exact hs.net) (by omega)
  have hexp : c.base < (netAll l (sendC c)).expected := by
    by_cases hbe : c.base < c.expected
    · exact Int.lt_of_lt_of_le hbe (netAll_exp l (sendC c))
    · match l, e1, e3, e4, hl0 with
      | p :: l, e1, e3, e4, hl0 =>
        rw [netAll]
        refine Int.lt_of_lt_of_le ?_ (netAll_exp l _)
        have hp := e3 p (by simp)
        have hpn := e4 0 p rfl
        unfold dlv
        rw [if_pos hp, if_pos (by show p.number = c.expected; simp at hpn; omega)]
        show c.base < c.expected + 1; omega
  have he : calm1 c = ackAll (netAll l (sendC c)).acks (netAll l (sendC c)) := by show ackAll (netAll (sendC c).net (sendC c)).acks (netAll (sendC c).net (sendC c)) = _; rw [hsn]
  rw [he]
  refine Int.lt_of_lt_of_le hexp (ackAll_reach _ _ _ hg.1 ?_ hg.2)
  have := hinv.ew; have := hinv.bq
  omega
theorem ChInv.calmN {want got : List ByteArray} {m : Nat} : ∀ (n : Nat) {c : Chan}, ChInv want got m c → ChInv want got m (calmN n c)
  | 0, _, h => h
  | n + 1, _, h => ChInv.calmN n h.calm1
theorem calmN_done {want got : List ByteArray} {m : Nat} : ∀ (n : Nat) {c : Chan}, ChInv want got m c → c.net = [] → c.acks = [] → c.queue.length ≤ n → (calmN n c).queue = []
  | 0, c, _, _, _, h => by
    show c.queue = []
    exact List.eq_nil_of_length_eq_zero (by omega)
  | n + 1, c, h, hn, ha, hl => by
    have hc := h.calm1
    have he := calm1_empty c
    refine calmN_done n hc he.1 he.2 ?_
    have h5 := h.bq; have h6 := hc.bq
    by_cases hq : c.queue = []
    · have hge : c.base ≤ (calm1 c).base := by
        have e1 : (netAll (sendC c).net (sendC c)).base = c.base := (netAll_same _ _).1
        rw [← e1]; exact ackAll_ge _ _
      rw [hq] at h5; simp at h5
      omega
    · have := calm1_less h hn ha hq
      omega
theorem ChInv.calm_all {want got : List ByteArray} {m : Nat} {c : Chan} (h : ChInv want got m c) (hc : Go.Proofs.YtgpmmmfnbphgdaaDoor.isChan c = true) : (calmC c).queue = [] ∧ got ++ (calmC c).inbox = want := by
  unfold calmC
  rw [if_pos hc]
  have h1 := h.calm1
  have he := calm1_empty c
  have hd := calmN_done 8 h1 he.1 he.2 h1.q8
  have hi := (h1.calmN 8)
  refine ⟨hd, ?_⟩
  have h5 := hi.bq; have h6 := hi.be; have h7 := hi.ew; have h8 := hi.inb
  rw [hd] at h5; simp at h5
  rw [List.take_of_length_le (by omega)] at h8
  exact h8
end Go.Proofs.YtgpmmmfnbphgdaaDoor
