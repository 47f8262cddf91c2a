/- The laws' helpers on flat slices: a slice value, what it reads as, its footprint. -/
import Derived.Test.YtgpmmmfnbphgdaaDoorObj
import Derived.Test.YtgpmmmfnbphgdaaDoorData
import Derived.Test.YtgpmmmfnbphgdaaDoorSz
import Derived.Test.YtgpmmmfnbphgdaaDoorTo
import Derived.Test.YtgpmmmfnbphgdaaDoorEq
import Derived.Test.YtgpmmmfnbphgdaaDoorEntryS
import Derived.Test.YtgpmmmfnbphgdaaDoorMark2
import Derived.Test.YtgpmmmfnbphgdaaDoorLaw
namespace Go.Proofs.YtgpmmmfnbphgdaaDoor
open Go.RowKit
set_option linter.unusedVariables false
set_option linter.unusedSimpArgs false
def Entry.ok (f : Entry) : Prop := wfI f.id ∧ f.factor.ok
theorem okEntry {l : List Entry} (h : ∀ f ∈ l, f.ok) : ∀ f ∈ l, f.factor.frm.size ≤ maxLen ∧ f.factor.to.size ≤ maxLen := fun f hf => ⟨(h f hf).2.1, (h f hf).2.2.1⟩

/-! ### FactorS -/
def RdF (w : World) (v : Sv) (l : List Factor) : Prop := Row w v.A v.n 8 (l.map Factor.cells)
def fpF (v : Sv) : List Nat := obl v.A
def lenF (v : Sv) : Prop := v.n ≤ maxLen
def okF (l : List Factor) : Prop := ∀ x ∈ l, Factor.ok x
def bulkF (l : List Factor) : Nat := l.length + sumBulk Factor.bulk l
def fewF (l : List Factor) : Prop := l.length ≤ 1048576
theorem fewF_of {l : List Factor} (h : bulkF l ≤ 1048576) : fewF l := by unfold bulkF at h; unfold fewF; omega
def cntF (l : List Factor) : Nat := 8 * l.length
theorem cntF_few {l : List Factor} (h : fewF l) : (cntF l : Int) ≤ 20000000 := by unfold cntF; unfold fewF at h; omega
def mkEF (k : Int) : Factor := ⟨k, k + 1, markTxt (k + 2), markTxt (k + 3), ⟨k + 4, k + 5, k + 6⟩, k + 7⟩
def mkF (k : Int) (l : List Factor) : List Factor := (List.range l.length).map fun (i : Nat) => mkEF (k + 8 * (i : Int))
theorem RdF.below {w w' : World} {v : Sv} {l : List Factor} (h : RdF w v l) (hb : Below w.heap.size w w') : RdF w' v l := Row.below h hb
theorem RdF.len {w : World} {v : Sv} {l : List Factor} (h : RdF w v l) : Hid (l.length = v.n) := Row.len h
theorem mkF_len (k : Int) (l : List Factor) : (mkF k l).length = l.length := by simp [mkF]
theorem cntF_le (l : List Factor) : cntF l ≤ 8 * bulkF l := by unfold cntF bulkF; omega
def OwF (w : World) (v : Sv) (l : List Factor) : Prop := Own w 0 52 8 v.A v.n v.c (l.map Factor.cells)
theorem OwF.own {w : World} {v : Sv} {l : List Factor} (h : OwF w v l) : Own w 0 52 8 v.A v.n v.c (l.map Factor.cells) := h
theorem OwF.rd {w : World} {v : Sv} {l : List Factor} (h : OwF w v l) : RdF w v l := Own.row h
theorem OwF.lt {w : World} {v : Sv} {l : List Factor} (h : OwF w v l) : ∀ k ∈ fpF v, k < w.heap.size := fun k hk => (Own.lt h k (mem_obl.1 hk)).2
theorem OwF.keep {w w' : World} {v : Sv} {l : List Factor} (h : OwF w v l) (hw : ∀ k ∈ fpF v, w'.heap[k]? = w.heap[k]?) : OwF w' v l := Own.keep h fun g hg => hw g (mem_obl.2 hg)
theorem OwF.below {w w' : World} {v : Sv} {l : List Factor} (h : OwF w v l) (hb : Below w.heap.size w w') : OwF w' v l := h.keep fun k hk => hb.block k (h.lt k hk)
theorem OwF.upd {w w' : World} {v : Sv} {l : List Factor} {fs : List Nat} (h : OwF w v l) (hu : Upd fs w w') (hd : ∀ k ∈ fpF v, k ∉ fs) : OwF w' v l := h.keep fun k hk => hu.block k (h.lt k hk) (hd k hk)
theorem eqFactorS_k (v v2 : Sv) (l : List Factor) (w : World) (hm : fewF l) (hr : RdF w v l) (hr2 : RdF w v2 l) :
    Calls Tryd.prog 110 #[.slice v.A v.n v.c, .slice v2.A v2.n v2.c] w fun e w' => e = rBool true ∧ Below w.heap.size w w' := by
  have e : v2.n = v.n := hr2.len.out.symm.trans hr.len.out
  obtain ⟨A2, n2, c2⟩ := v2
  dsimp only at e hr2
  subst e
  exact eqFactorS_c v.A A2 v.n v.c c2 l w (by have := hr.len.out; unfold fewF at hm; omega) hr hr2
theorem mkF_cells {k : Int} {l : List Factor} {n : Nat} (h : Hid (l.length = n)) : (mkF k l).map Factor.cells = (List.range n).map (markFactor k) := by
  rw [← h.out]
  simp only [mkF, List.map_map]
  rfl
theorem markFactorS_k (v : Sv) (l : List Factor) (k0 : Int) (w : World) (hk0 : 0 ≤ k0) (hk1 : k0 ≤ 10000000000) (hm : fewF l) (ho : OwF w v l) (hnd : (fpF v).Nodup) :
    Calls Tryd.prog 111 #[.slice v.A v.n v.c, .int .i64 k0] w fun e w' => e = rInt (k0 + cntF l) ∧ OwF w' v (mkF k0 l) ∧ Upd (fpF v) w w' :=
  (markFactorS_c v.A v.n v.c 0 _ k0 w (by have := ho.rd.len.out; unfold fewF at hm; omega) hk0 (by omega) ho).mono fun e w' ⟨h1, h2, h3⟩ => ⟨by rw [h1]; unfold cntF; rw [ho.rd.len.out]; push_cast; rfl, by unfold OwF; rw [mkF_cells ho.rd.len]; exact h2, Upd.of_row h3⟩
theorem heldFactorS_k (v : Sv) (l : List Factor) (k0 : Int) (w : World) (hk0 : 0 ≤ k0) (hk1 : k0 ≤ 10000000000) (hm : fewF l) (hr : RdF w v (mkF k0 l)) :
    Calls Tryd.prog 112 #[.slice v.A v.n v.c, .int .i64 k0] w fun e w' => e = rInt (k0 + cntF l) ∧ Below w.heap.size w w' := by
  have e : Hid (l.length = v.n) := by have := hr.len.out; rw [mkF_len] at this; exact this
  refine (heldFactorS_c v.A v.n v.c k0 w (by have := e.out; unfold fewF at hm; omega) hk0 (by omega) (by rw [← mkF_cells e]; exact hr)).mono fun e' w' ⟨h1, h2⟩ => ⟨by rw [h1]; unfold cntF; rw [e.out]; push_cast; rfl, h2⟩

/-! ### PlaceS -/
def RdP (w : World) (v : Sv) (l : List Place) : Prop := Row w v.A v.n 2 (l.map Place.cells)
def fpP (v : Sv) : List Nat := obl v.A
def lenP (v : Sv) : Prop := v.n ≤ maxLen
def okP (l : List Place) : Prop := ∀ x ∈ l, Place.ok x
def bulkP (l : List Place) : Nat := l.length + sumBulk Place.bulk l
def fewP (l : List Place) : Prop := l.length ≤ 1048576
theorem fewP_of {l : List Place} (h : bulkP l ≤ 1048576) : fewP l := by unfold bulkP at h; unfold fewP; omega
def cntP (l : List Place) : Nat := 2 * l.length
theorem cntP_few {l : List Place} (h : fewP l) : (cntP l : Int) ≤ 20000000 := by unfold cntP; unfold fewP at h; omega
def mkEP (k : Int) : Place := ⟨markTxt k, k + 1⟩
def mkP (k : Int) (l : List Place) : List Place := (List.range l.length).map fun (i : Nat) => mkEP (k + 2 * (i : Int))
theorem RdP.below {w w' : World} {v : Sv} {l : List Place} (h : RdP w v l) (hb : Below w.heap.size w w') : RdP w' v l := Row.below h hb
theorem RdP.len {w : World} {v : Sv} {l : List Place} (h : RdP w v l) : Hid (l.length = v.n) := Row.len h
theorem mkP_len (k : Int) (l : List Place) : (mkP k l).length = l.length := by simp [mkP]
theorem cntP_le (l : List Place) : cntP l ≤ 2 * bulkP l := by unfold cntP bulkP; omega

/-! ### PacketS -/
def RdK (w : World) (v : Sv) (l : List Packet) : Prop := Row w v.A v.n 4 (l.map Packet.cells)
def fpK (v : Sv) : List Nat := obl v.A
def lenK (v : Sv) : Prop := v.n ≤ maxLen
def okK (l : List Packet) : Prop := ∀ x ∈ l, Packet.ok x
def bulkK (l : List Packet) : Nat := l.length + sumBulk Packet.bulk l
def fewK (l : List Packet) : Prop := l.length ≤ 1048576
theorem fewK_of {l : List Packet} (h : bulkK l ≤ 1048576) : fewK l := by unfold bulkK at h; unfold fewK; omega
def cntK (l : List Packet) : Nat := 4 * l.length
theorem cntK_few {l : List Packet} (h : fewK l) : (cntK l : Int) ≤ 20000000 := by unfold cntK; unfold fewK at h; omega
def mkEK (k : Int) : Packet := ⟨k % 3 == 0, k + 1, markTxt (k + 2), k + 3⟩
def mkK (k : Int) (l : List Packet) : List Packet := (List.range l.length).map fun (i : Nat) => mkEK (k + 4 * (i : Int))
theorem RdK.below {w w' : World} {v : Sv} {l : List Packet} (h : RdK w v l) (hb : Below w.heap.size w w') : RdK w' v l := Row.below h hb
theorem RdK.len {w : World} {v : Sv} {l : List Packet} (h : RdK w v l) : Hid (l.length = v.n) := Row.len h
theorem mkK_len (k : Int) (l : List Packet) : (mkK k l).length = l.length := by simp [mkK]
theorem cntK_le (l : List Packet) : cntK l ≤ 4 * bulkK l := by unfold cntK bulkK; omega
def OwK (w : World) (v : Sv) (l : List Packet) : Prop := Own w 0 144 4 v.A v.n v.c (l.map Packet.cells)
theorem OwK.own {w : World} {v : Sv} {l : List Packet} (h : OwK w v l) : Own w 0 144 4 v.A v.n v.c (l.map Packet.cells) := h
theorem OwK.rd {w : World} {v : Sv} {l : List Packet} (h : OwK w v l) : RdK w v l := Own.row h
theorem OwK.lt {w : World} {v : Sv} {l : List Packet} (h : OwK w v l) : ∀ k ∈ fpK v, k < w.heap.size := fun k hk => (Own.lt h k (mem_obl.1 hk)).2
theorem OwK.keep {w w' : World} {v : Sv} {l : List Packet} (h : OwK w v l) (hw : ∀ k ∈ fpK v, w'.heap[k]? = w.heap[k]?) : OwK w' v l := Own.keep h fun g hg => hw g (mem_obl.2 hg)
theorem OwK.below {w w' : World} {v : Sv} {l : List Packet} (h : OwK w v l) (hb : Below w.heap.size w w') : OwK w' v l := h.keep fun k hk => hb.block k (h.lt k hk)
theorem OwK.upd {w w' : World} {v : Sv} {l : List Packet} {fs : List Nat} (h : OwK w v l) (hu : Upd fs w w') (hd : ∀ k ∈ fpK v, k ∉ fs) : OwK w' v l := h.keep fun k hk => hu.block k (h.lt k hk) (hd k hk)
theorem szPacketS_k (v : Sv) (l : List Packet) (left : Int) (w : World) (h1 : 0 ≤ left) (h2 : left ≤ 1048576) (hl : lenK v) (hok : okK l) (hr : RdK w v l) :
    Calls Tryd.prog 69 #[.slice v.A v.n v.c, .int .i64 left] w fun e w' => SzPost left (bulkK l) e ∧ Below w.heap.size w w' := by
  have e : bulkK l = v.n + sumBulk Packet.bulk l := by unfold bulkK; rw [hr.len.out]
  rw [e]
  exact szPacketS_c v.A v.n v.c l left w h1 h2 hl hr (okPacket hok)
theorem toPacketS_k (v : Sv) (l : List Packet) (w : World) (hm : fewK l) (hr : RdK w v l) :
    Calls Tryd.prog 77 #[.slice v.A v.n v.c] w fun e w' => ∃ v' : Sv, e = .returned (.slice v'.A v'.n v'.c) ∧ OwK w' v' l ∧ Fresh w.heap.size w' (fpK v') ∧ Below w.heap.size w w' :=
  (toPacketS_c v.A v.n v.c l w (by have := hr.len.out; unfold fewK at hm; omega) hr).mono fun e w' ⟨A, c, h1, h2, h3⟩ => ⟨⟨A, v.n, c⟩, h1, h2.zero, Fresh.obl_ h2, h3⟩
theorem eqPacketS_k (v v2 : Sv) (l : List Packet) (w : World) (hm : fewK l) (hr : RdK w v l) (hr2 : RdK w v2 l) :
    Calls Tryd.prog 79 #[.slice v.A v.n v.c, .slice v2.A v2.n v2.c] w fun e w' => e = rBool true ∧ Below w.heap.size w w' := by
  have e : v2.n = v.n := hr2.len.out.symm.trans hr.len.out
  obtain ⟨A2, n2, c2⟩ := v2
  dsimp only at e hr2
  subst e
  exact eqPacketS_c v.A A2 v.n v.c c2 l w (by have := hr.len.out; unfold fewK at hm; omega) hr hr2
theorem mkK_cells {k : Int} {l : List Packet} {n : Nat} (h : Hid (l.length = n)) : (mkK k l).map Packet.cells = (List.range n).map (markPacket k) := by
  rw [← h.out]
  simp only [mkK, List.map_map]
  rfl
theorem markPacketS_k (v : Sv) (l : List Packet) (k0 : Int) (w : World) (hk0 : 0 ≤ k0) (hk1 : k0 ≤ 10000000000) (hm : fewK l) (ho : OwK w v l) (hnd : (fpK v).Nodup) :
    Calls Tryd.prog 81 #[.slice v.A v.n v.c, .int .i64 k0] w fun e w' => e = rInt (k0 + cntK l) ∧ OwK w' v (mkK k0 l) ∧ Upd (fpK v) w w' :=
  (markPacketS_c v.A v.n v.c 0 _ k0 w (by have := ho.rd.len.out; unfold fewK at hm; omega) hk0 (by omega) ho).mono fun e w' ⟨h1, h2, h3⟩ => ⟨by rw [h1]; unfold cntK; rw [ho.rd.len.out]; push_cast; rfl, by unfold OwK; rw [mkK_cells ho.rd.len]; exact h2, Upd.of_row h3⟩
theorem heldPacketS_k (v : Sv) (l : List Packet) (k0 : Int) (w : World) (hk0 : 0 ≤ k0) (hk1 : k0 ≤ 10000000000) (hm : fewK l) (hr : RdK w v (mkK k0 l)) :
    Calls Tryd.prog 83 #[.slice v.A v.n v.c, .int .i64 k0] w fun e w' => e = rInt (k0 + cntK l) ∧ Below w.heap.size w w' := by
  have e : Hid (l.length = v.n) := by have := hr.len.out; rw [mkK_len] at this; exact this
  refine (heldPacketS_c v.A v.n v.c k0 w (by have := e.out; unfold fewK at hm; omega) hk0 (by omega) (by rw [← mkK_cells e]; exact hr)).mono fun e' w' ⟨h1, h2⟩ => ⟨by rw [h1]; unfold cntK; rw [e.out]; push_cast; rfl, h2⟩

/-! ### StringS -/
def RdS (w : World) (v : Sv) (l : List ByteArray) : Prop := Row w v.A v.n 1 (l.map strCells)
def fpS (v : Sv) : List Nat := obl v.A
def lenS (v : Sv) : Prop := v.n ≤ maxLen
def okS (l : List ByteArray) : Prop := ∀ x ∈ l, x.size ≤ maxLen
def bulkS (l : List ByteArray) : Nat := l.length + sumBulk ByteArray.size l
def fewS (l : List ByteArray) : Prop := l.length ≤ 1048576
theorem fewS_of {l : List ByteArray} (h : bulkS l ≤ 1048576) : fewS l := by unfold bulkS at h; unfold fewS; omega
def cntS (l : List ByteArray) : Nat := 1 * l.length
theorem cntS_few {l : List ByteArray} (h : fewS l) : (cntS l : Int) ≤ 20000000 := by unfold cntS; unfold fewS at h; omega
def mkES (k : Int) : ByteArray := markTxt k
def mkS (k : Int) (l : List ByteArray) : List ByteArray := (List.range l.length).map fun (i : Nat) => mkES (k + 1 * (i : Int))
theorem RdS.below {w w' : World} {v : Sv} {l : List ByteArray} (h : RdS w v l) (hb : Below w.heap.size w w') : RdS w' v l := Row.below h hb
theorem RdS.len {w : World} {v : Sv} {l : List ByteArray} (h : RdS w v l) : Hid (l.length = v.n) := Row.len h
theorem mkS_len (k : Int) (l : List ByteArray) : (mkS k l).length = l.length := by simp [mkS]
theorem cntS_le (l : List ByteArray) : cntS l ≤ 1 * bulkS l := by unfold cntS bulkS; omega
def OwS (w : World) (v : Sv) (l : List ByteArray) : Prop := Own w 0 9 1 v.A v.n v.c (l.map strCells)
theorem OwS.own {w : World} {v : Sv} {l : List ByteArray} (h : OwS w v l) : Own w 0 9 1 v.A v.n v.c (l.map strCells) := h
theorem OwS.rd {w : World} {v : Sv} {l : List ByteArray} (h : OwS w v l) : RdS w v l := Own.row h
theorem OwS.lt {w : World} {v : Sv} {l : List ByteArray} (h : OwS w v l) : ∀ k ∈ fpS v, k < w.heap.size := fun k hk => (Own.lt h k (mem_obl.1 hk)).2
theorem OwS.keep {w w' : World} {v : Sv} {l : List ByteArray} (h : OwS w v l) (hw : ∀ k ∈ fpS v, w'.heap[k]? = w.heap[k]?) : OwS w' v l := Own.keep h fun g hg => hw g (mem_obl.2 hg)
theorem OwS.below {w w' : World} {v : Sv} {l : List ByteArray} (h : OwS w v l) (hb : Below w.heap.size w w') : OwS w' v l := h.keep fun k hk => hb.block k (h.lt k hk)
theorem OwS.upd {w w' : World} {v : Sv} {l : List ByteArray} {fs : List Nat} (h : OwS w v l) (hu : Upd fs w w') (hd : ∀ k ∈ fpS v, k ∉ fs) : OwS w' v l := h.keep fun k hk => hu.block k (h.lt k hk) (hd k hk)
theorem szStringS_k (v : Sv) (l : List ByteArray) (left : Int) (w : World) (h1 : 0 ≤ left) (h2 : left ≤ 1048576) (hl : lenS v) (hok : okS l) (hr : RdS w v l) :
    Calls Tryd.prog 68 #[.slice v.A v.n v.c, .int .i64 left] w fun e w' => SzPost left (bulkS l) e ∧ Below w.heap.size w w' := by
  have e : bulkS l = v.n + sumBulk ByteArray.size l := by unfold bulkS; rw [hr.len.out]
  rw [e]
  exact szStringS_c v.A v.n v.c l left w h1 h2 hl hr (id hok)
theorem toStringS_k (v : Sv) (l : List ByteArray) (w : World) (hm : fewS l) (hr : RdS w v l) :
    Calls Tryd.prog 76 #[.slice v.A v.n v.c] w fun e w' => ∃ v' : Sv, e = .returned (.slice v'.A v'.n v'.c) ∧ OwS w' v' l ∧ Fresh w.heap.size w' (fpS v') ∧ Below w.heap.size w w' :=
  (toStringS_c v.A v.n v.c l w (by have := hr.len.out; unfold fewS at hm; omega) hr).mono fun e w' ⟨A, c, h1, h2, h3⟩ => ⟨⟨A, v.n, c⟩, h1, h2.zero, Fresh.obl_ h2, h3⟩
theorem eqStringS_k (v v2 : Sv) (l : List ByteArray) (w : World) (hm : fewS l) (hr : RdS w v l) (hr2 : RdS w v2 l) :
    Calls Tryd.prog 78 #[.slice v.A v.n v.c, .slice v2.A v2.n v2.c] w fun e w' => e = rBool true ∧ Below w.heap.size w w' := by
  have e : v2.n = v.n := hr2.len.out.symm.trans hr.len.out
  obtain ⟨A2, n2, c2⟩ := v2
  dsimp only at e hr2
  subst e
  exact eqStringS_c v.A A2 v.n v.c c2 l w (by have := hr.len.out; unfold fewS at hm; omega) hr hr2
theorem mkS_cells {k : Int} {l : List ByteArray} {n : Nat} (h : Hid (l.length = n)) : (mkS k l).map strCells = (List.range n).map (markString k) := by
  rw [← h.out]
  simp only [mkS, List.map_map]
  rfl
theorem markStringS_k (v : Sv) (l : List ByteArray) (k0 : Int) (w : World) (hk0 : 0 ≤ k0) (hk1 : k0 ≤ 10000000000) (hm : fewS l) (ho : OwS w v l) (hnd : (fpS v).Nodup) :
    Calls Tryd.prog 80 #[.slice v.A v.n v.c, .int .i64 k0] w fun e w' => e = rInt (k0 + cntS l) ∧ OwS w' v (mkS k0 l) ∧ Upd (fpS v) w w' :=
  (markStringS_c v.A v.n v.c 0 _ k0 w (by have := ho.rd.len.out; unfold fewS at hm; omega) hk0 (by omega) ho).mono fun e w' ⟨h1, h2, h3⟩ => ⟨by rw [h1]; unfold cntS; rw [ho.rd.len.out]; push_cast; rfl, by unfold OwS; rw [mkS_cells ho.rd.len]; exact h2, Upd.of_row h3⟩
theorem heldStringS_k (v : Sv) (l : List ByteArray) (k0 : Int) (w : World) (hk0 : 0 ≤ k0) (hk1 : k0 ≤ 10000000000) (hm : fewS l) (hr : RdS w v (mkS k0 l)) :
    Calls Tryd.prog 82 #[.slice v.A v.n v.c, .int .i64 k0] w fun e w' => e = rInt (k0 + cntS l) ∧ Below w.heap.size w w' := by
  have e : Hid (l.length = v.n) := by have := hr.len.out; rw [mkS_len] at this; exact this
  refine (heldStringS_c v.A v.n v.c k0 w (by have := e.out; unfold fewS at hm; omega) hk0 (by omega) (by rw [← mkS_cells e]; exact hr)).mono fun e' w' ⟨h1, h2⟩ => ⟨by rw [h1]; unfold cntS; rw [e.out]; push_cast; rfl, h2⟩

/-! ### IntS -/
def RdI (w : World) (v : Sv) (l : List Int) : Prop := Row w v.A v.n 1 (l.map intCells)
def fpI (v : Sv) : List Nat := obl v.A
def lenI (v : Sv) : Prop := v.n ≤ maxLen
def okI (l : List Int) : Prop := ∀ x ∈ l, True
def bulkI (l : List Int) : Nat := l.length + sumBulk (fun _ => 0) l
def fewI (l : List Int) : Prop := l.length ≤ 1048576
theorem fewI_of {l : List Int} (h : bulkI l ≤ 1048576) : fewI l := by unfold bulkI at h; unfold fewI; omega
def cntI (l : List Int) : Nat := 1 * l.length
theorem cntI_few {l : List Int} (h : fewI l) : (cntI l : Int) ≤ 20000000 := by unfold cntI; unfold fewI at h; omega
def mkEI (k : Int) : Int := k
def mkI (k : Int) (l : List Int) : List Int := (List.range l.length).map fun (i : Nat) => mkEI (k + 1 * (i : Int))
theorem RdI.below {w w' : World} {v : Sv} {l : List Int} (h : RdI w v l) (hb : Below w.heap.size w w') : RdI w' v l := Row.below h hb
theorem RdI.len {w : World} {v : Sv} {l : List Int} (h : RdI w v l) : Hid (l.length = v.n) := Row.len h
theorem mkI_len (k : Int) (l : List Int) : (mkI k l).length = l.length := by simp [mkI]
theorem cntI_le (l : List Int) : cntI l ≤ 1 * bulkI l := by unfold cntI bulkI; omega
def OwI (w : World) (v : Sv) (l : List Int) : Prop := Own w 0 3 1 v.A v.n v.c (l.map intCells)
theorem OwI.own {w : World} {v : Sv} {l : List Int} (h : OwI w v l) : Own w 0 3 1 v.A v.n v.c (l.map intCells) := h
theorem OwI.rd {w : World} {v : Sv} {l : List Int} (h : OwI w v l) : RdI w v l := Own.row h
theorem OwI.lt {w : World} {v : Sv} {l : List Int} (h : OwI w v l) : ∀ k ∈ fpI v, k < w.heap.size := fun k hk => (Own.lt h k (mem_obl.1 hk)).2
theorem OwI.keep {w w' : World} {v : Sv} {l : List Int} (h : OwI w v l) (hw : ∀ k ∈ fpI v, w'.heap[k]? = w.heap[k]?) : OwI w' v l := Own.keep h fun g hg => hw g (mem_obl.2 hg)
theorem OwI.below {w w' : World} {v : Sv} {l : List Int} (h : OwI w v l) (hb : Below w.heap.size w w') : OwI w' v l := h.keep fun k hk => hb.block k (h.lt k hk)
theorem OwI.upd {w w' : World} {v : Sv} {l : List Int} {fs : List Nat} (h : OwI w v l) (hu : Upd fs w w') (hd : ∀ k ∈ fpI v, k ∉ fs) : OwI w' v l := h.keep fun k hk => hu.block k (h.lt k hk) (hd k hk)

/-! ### EntryS -/
def RdN (w : World) (v : Sv) (l : List Entry) : Prop := Row w v.A v.n 10 (l.map Entry.cells)
def fpN (v : Sv) : List Nat := obl v.A
def lenN (v : Sv) : Prop := v.n ≤ maxLen
def okN (l : List Entry) : Prop := ∀ x ∈ l, Entry.ok x
def bulkN (l : List Entry) : Nat := l.length + sumBulk Entry.bulk l
def fewN (l : List Entry) : Prop := l.length ≤ 1048576
theorem fewN_of {l : List Entry} (h : bulkN l ≤ 1048576) : fewN l := by unfold bulkN at h; unfold fewN; omega
def cntN (l : List Entry) : Nat := 10 * l.length
theorem cntN_few {l : List Entry} (h : fewN l) : (cntN l : Int) ≤ 20000000 := by unfold cntN; unfold fewN at h; omega
def mkEN (k : Int) : Entry := ⟨k % 3 == 0, k + 1, ⟨k + 2, k + 3, markTxt (k + 4), markTxt (k + 5), ⟨k + 6, k + 7, k + 8⟩, k + 9⟩⟩
def mkN (k : Int) (l : List Entry) : List Entry := (List.range l.length).map fun (i : Nat) => mkEN (k + 10 * (i : Int))
theorem RdN.below {w w' : World} {v : Sv} {l : List Entry} (h : RdN w v l) (hb : Below w.heap.size w w') : RdN w' v l := Row.below h hb
theorem RdN.len {w : World} {v : Sv} {l : List Entry} (h : RdN w v l) : Hid (l.length = v.n) := Row.len h
theorem mkN_len (k : Int) (l : List Entry) : (mkN k l).length = l.length := by simp [mkN]
theorem cntN_le (l : List Entry) : cntN l ≤ 10 * bulkN l := by unfold cntN bulkN; omega
def OwN (w : World) (v : Sv) (l : List Entry) : Prop := Own w 0 84 10 v.A v.n v.c (l.map Entry.cells)
theorem OwN.own {w : World} {v : Sv} {l : List Entry} (h : OwN w v l) : Own w 0 84 10 v.A v.n v.c (l.map Entry.cells) := h
theorem OwN.rd {w : World} {v : Sv} {l : List Entry} (h : OwN w v l) : RdN w v l := Own.row h
theorem OwN.lt {w : World} {v : Sv} {l : List Entry} (h : OwN w v l) : ∀ k ∈ fpN v, k < w.heap.size := fun k hk => (Own.lt h k (mem_obl.1 hk)).2
theorem OwN.keep {w w' : World} {v : Sv} {l : List Entry} (h : OwN w v l) (hw : ∀ k ∈ fpN v, w'.heap[k]? = w.heap[k]?) : OwN w' v l := Own.keep h fun g hg => hw g (mem_obl.2 hg)
theorem OwN.below {w w' : World} {v : Sv} {l : List Entry} (h : OwN w v l) (hb : Below w.heap.size w w') : OwN w' v l := h.keep fun k hk => hb.block k (h.lt k hk)
theorem OwN.upd {w w' : World} {v : Sv} {l : List Entry} {fs : List Nat} (h : OwN w v l) (hu : Upd fs w w') (hd : ∀ k ∈ fpN v, k ∉ fs) : OwN w' v l := h.keep fun k hk => hu.block k (h.lt k hk) (hd k hk)
theorem eqEntryS_k (v v2 : Sv) (l : List Entry) (w : World) (hm : fewN l) (hr : RdN w v l) (hr2 : RdN w v2 l) :
    Calls Tryd.prog 59 #[.slice v.A v.n v.c, .slice v2.A v2.n v2.c] w fun e w' => e = rBool true ∧ Below w.heap.size w w' := by
  have e : v2.n = v.n := hr2.len.out.symm.trans hr.len.out
  obtain ⟨A2, n2, c2⟩ := v2
  dsimp only at e hr2
  subst e
  exact eqEntryS_c v.A A2 v.n v.c c2 l w (by have := hr.len.out; unfold fewN at hm; omega) hr hr2
theorem mkN_cells {k : Int} {l : List Entry} {n : Nat} (h : Hid (l.length = n)) : (mkN k l).map Entry.cells = (List.range n).map (markEntry k) := by
  rw [← h.out]
  simp only [mkN, List.map_map]
  rfl
theorem markEntryS_k (v : Sv) (l : List Entry) (k0 : Int) (w : World) (hk0 : 0 ≤ k0) (hk1 : k0 ≤ 10000000000) (hm : fewN l) (ho : OwN w v l) (hnd : (fpN v).Nodup) :
    Calls Tryd.prog 60 #[.slice v.A v.n v.c, .int .i64 k0] w fun e w' => e = rInt (k0 + cntN l) ∧ OwN w' v (mkN k0 l) ∧ Upd (fpN v) w w' :=
  (markEntryS_c v.A v.n v.c 0 _ k0 w (by have := ho.rd.len.out; unfold fewN at hm; omega) hk0 (by omega) ho).mono fun e w' ⟨h1, h2, h3⟩ => ⟨by rw [h1]; unfold cntN; rw [ho.rd.len.out]; push_cast; rfl, by unfold OwN; rw [mkN_cells ho.rd.len]; exact h2, Upd.of_row h3⟩
theorem heldEntryS_k (v : Sv) (l : List Entry) (k0 : Int) (w : World) (hk0 : 0 ≤ k0) (hk1 : k0 ≤ 10000000000) (hm : fewN l) (hr : RdN w v (mkN k0 l)) :
    Calls Tryd.prog 61 #[.slice v.A v.n v.c, .int .i64 k0] w fun e w' => e = rInt (k0 + cntN l) ∧ Below w.heap.size w w' := by
  have e : Hid (l.length = v.n) := by have := hr.len.out; rw [mkN_len] at this; exact this
  refine (heldEntryS_c v.A v.n v.c k0 w (by have := e.out; unfold fewN at hm; omega) hk0 (by omega) (by rw [← mkN_cells e]; exact hr)).mono fun e' w' ⟨h1, h2⟩ => ⟨by rw [h1]; unfold cntN; rw [e.out]; push_cast; rfl, h2⟩

/-! ### PlaceEntryS -/
def RdL (w : World) (v : Sv) (l : List PlaceEntry) : Prop := Row w v.A v.n 3 (l.map PlaceEntry.cells)
def fpL (v : Sv) : List Nat := obl v.A
def lenL (v : Sv) : Prop := v.n ≤ maxLen
def okL (l : List PlaceEntry) : Prop := ∀ x ∈ l, True
def bulkL (l : List PlaceEntry) : Nat := l.length + sumBulk (fun _ => 0) l
def fewL (l : List PlaceEntry) : Prop := l.length ≤ 1048576
theorem fewL_of {l : List PlaceEntry} (h : bulkL l ≤ 1048576) : fewL l := by unfold bulkL at h; unfold fewL; omega
def cntL (l : List PlaceEntry) : Nat := 3 * l.length
theorem cntL_few {l : List PlaceEntry} (h : fewL l) : (cntL l : Int) ≤ 20000000 := by unfold cntL; unfold fewL at h; omega
def mkEL (k : Int) : PlaceEntry := ⟨k, k + 1, k + 2⟩
def mkL (k : Int) (l : List PlaceEntry) : List PlaceEntry := (List.range l.length).map fun (i : Nat) => mkEL (k + 3 * (i : Int))
theorem RdL.below {w w' : World} {v : Sv} {l : List PlaceEntry} (h : RdL w v l) (hb : Below w.heap.size w w') : RdL w' v l := Row.below h hb
theorem RdL.len {w : World} {v : Sv} {l : List PlaceEntry} (h : RdL w v l) : Hid (l.length = v.n) := Row.len h
theorem mkL_len (k : Int) (l : List PlaceEntry) : (mkL k l).length = l.length := by simp [mkL]
theorem cntL_le (l : List PlaceEntry) : cntL l ≤ 3 * bulkL l := by unfold cntL bulkL; omega

end Go.Proofs.YtgpmmmfnbphgdaaDoor
