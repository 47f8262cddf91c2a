/- Texts of this proof, one behind the other: Flat, Bun, NmOf, NmOf2. -/
import Derived.Test.YtebcdjpddoaajaaDoorGr7
import Derived.Test.YtebcdjpddoaajaaDoorGr8
import Derived.Test.YtebcdjpddoaajaaDoorGr11
import Derived.Test.YtebcdjpddoaajaaDoorGr12
import Derived.Test.YtebcdjpddoaajaaDoorGr13
import Derived.Test.YtebcdjpddoaajaaDoorGr14
import Derived.Test.YtebcdjpddoaajaaDoorGr15
import Derived.Test.YtebcdjpddoaajaaDoorGr16
/- The laws' helpers on flat slices: a slice value, what it reads as, its footprint. -/
namespace Go.Proofs.YtebcdjpddoaajaaDoor
open Go.RowKit
set_option linter.unusedVariables false
set_option linter.unusedSimpArgs false
def Entry.ok (f : Entry) : Prop := wfI f.id ∧ f.factor.ok
theorem okEntry {l : List Entry} (h : ∀ f ∈ l, f.ok) : ∀ f ∈ l, f.factor.frm.size ≤ maxLen ∧ f.factor.to.size ≤ maxLen := fun f hf => ⟨(h f hf).2.1, (h f hf).2.2.1⟩

/-! ### FactorS -/
def RdF (w : World) (v : Sv) (l : List Factor) : Prop := Row w v.A v.n 8 (l.map Factor.cells)
def fpF (v : Sv) : List Nat := obl v.A
def lenF (v : Sv) : Prop := v.n ≤ maxLen
def okF (l : List Factor) : Prop := ∀ x ∈ l, Factor.ok x
def bulkF (l : List Factor) : Nat := l.length + sumBulk Factor.bulk l
def fewF (l : List Factor) : Prop := l.length ≤ 1048576
theorem fewF_of {l : List Factor} (h : bulkF l ≤ 1048576) : fewF l := by unfold bulkF at h; unfold fewF; omega
def cntF (l : List Factor) : Nat := 8 * l.length
theorem cntF_few {l : List Factor} (h : fewF l) : (cntF l : Int) ≤ 20000000 := by unfold cntF; unfold fewF at h; omega
def mkEF (k : Int) : Factor := ⟨k, k + 1, markTxt (k + 2), markTxt (k + 3), ⟨k + 4, k + 5, k + 6⟩, k + 7⟩
def mkF (k : Int) (l : List Factor) : List Factor := (List.range l.length).map fun (i : Nat) => mkEF (k + 8 * (i : Int))
theorem RdF.below {w w' : World} {v : Sv} {l : List Factor} (h : RdF w v l) (hb : Below w.heap.size w w') : RdF w' v l := Row.below h hb
theorem RdF.len {w : World} {v : Sv} {l : List Factor} (h : RdF w v l) : Hid (l.length = v.n) := Row.len h
theorem mkF_len (k : Int) (l : List Factor) : (mkF k l).length = l.length := by simp [mkF]
theorem cntF_le (l : List Factor) : cntF l ≤ 8 * bulkF l := by unfold cntF bulkF; omega
def OwF (w : World) (v : Sv) (l : List Factor) : Prop := Own w 0 28 8 v.A v.n v.c (l.map Factor.cells)
theorem OwF.own {w : World} {v : Sv} {l : List Factor} (h : OwF w v l) : Own w 0 28 8 v.A v.n v.c (l.map Factor.cells) := h
theorem OwF.rd {w : World} {v : Sv} {l : List Factor} (h : OwF w v l) : RdF w v l := Own.row h
theorem OwF.lt {w : World} {v : Sv} {l : List Factor} (h : OwF w v l) : ∀ k ∈ fpF v, k < w.heap.size := fun k hk => (Own.lt h k (mem_obl.1 hk)).2
theorem OwF.keep {w w' : World} {v : Sv} {l : List Factor} (h : OwF w v l) (hw : ∀ k ∈ fpF v, w'.heap[k]? = w.heap[k]?) : OwF w' v l := Own.keep h fun g hg => hw g (mem_obl.2 hg)
theorem OwF.below {w w' : World} {v : Sv} {l : List Factor} (h : OwF w v l) (hb : Below w.heap.size w w') : OwF w' v l := h.keep fun k hk => hb.block k (h.lt k hk)
theorem OwF.upd {w w' : World} {v : Sv} {l : List Factor} {fs : List Nat} (h : OwF w v l) (hu : Upd fs w w') (hd : ∀ k ∈ fpF v, k ∉ fs) : OwF w' v l := h.keep fun k hk => hu.block k (h.lt k hk) (hd k hk)
theorem eqFactorS_k (v v2 : Sv) (l : List Factor) (w : World) (hm : fewF l) (hr : RdF w v l) (hr2 : RdF w v2 l) :
    Calls Tryd.prog 73 #[.slice v.A v.n v.c, .slice v2.A v2.n v2.c] w fun e w' => e = rBool true ∧ Below w.heap.size w w' := by
  have e : v2.n = v.n := hr2.len.out.symm.trans hr.len.out
  obtain ⟨A2, n2, c2⟩ := v2
  dsimp only at e hr2
  subst e
  exact eqFactorS_c v.A A2 v.n v.c c2 l w (by have := hr.len.out; unfold fewF at hm; omega) hr hr2
theorem mkF_cells {k : Int} {l : List Factor} {n : Nat} (h : Hid (l.length = n)) : (mkF k l).map Factor.cells = (List.range n).map (markFactor k) := by
  rw [← h.out]
  simp only [mkF, List.map_map]
  rfl
theorem markFactorS_k (v : Sv) (l : List Factor) (k0 : Int) (w : World) (hk0 : 0 ≤ k0) (hk1 : k0 ≤ 10000000000) (hm : fewF l) (ho : OwF w v l) (hnd : (fpF v).Nodup) :
    Calls Tryd.prog 74 #[.slice v.A v.n v.c, .int .i64 k0] w fun e w' => e = rInt (k0 + cntF l) ∧ OwF w' v (mkF k0 l) ∧ Upd (fpF v) w w' :=
  (markFactorS_c v.A v.n v.c 0 _ k0 w (by have := ho.rd.len.out; unfold fewF at hm; omega) hk0 (by omega) ho).mono fun e w' ⟨h1, h2, h3⟩ => ⟨by rw [h1]; unfold cntF; rw [ho.rd.len.out]; push_cast; rfl, by unfold OwF; rw [mkF_cells ho.rd.len]; exact h2, Upd.of_row h3⟩
theorem heldFactorS_k (v : Sv) (l : List Factor) (k0 : Int) (w : World) (hk0 : 0 ≤ k0) (hk1 : k0 ≤ 10000000000) (hm : fewF l) (hr : RdF w v (mkF k0 l)) :
    Calls Tryd.prog 75 #[.slice v.A v.n v.c, .int .i64 k0] w fun e w' => e = rInt (k0 + cntF l) ∧ Below w.heap.size w w' := by
  have e : Hid (l.length = v.n) := by have := hr.len.out; rw [mkF_len] at this; exact this
  refine (heldFactorS_c v.A v.n v.c k0 w (by have := e.out; unfold fewF at hm; omega) hk0 (by omega) (by rw [← mkF_cells e]; exact hr)).mono fun e' w' ⟨h1, h2⟩ => ⟨by rw [h1]; unfold cntF; rw [e.out]; push_cast; rfl, h2⟩

/-! ### PlaceS -/
def RdP (w : World) (v : Sv) (l : List Place) : Prop := Row w v.A v.n 2 (l.map Place.cells)
def fpP (v : Sv) : List Nat := obl v.A
def lenP (v : Sv) : Prop := v.n ≤ maxLen
def okP (l : List Place) : Prop := ∀ x ∈ l, Place.ok x
def bulkP (l : List Place) : Nat := l.length + sumBulk Place.bulk l
def fewP (l : List Place) : Prop := l.length ≤ 1048576
theorem fewP_of {l : List Place} (h : bulkP l ≤ 1048576) : fewP l := by unfold bulkP at h; unfold fewP; omega
def cntP (l : List Place) : Nat := 2 * l.length
theorem cntP_few {l : List Place} (h : fewP l) : (cntP l : Int) ≤ 20000000 := by unfold cntP; unfold fewP at h; omega
def mkEP (k : Int) : Place := ⟨markTxt k, k + 1⟩
def mkP (k : Int) (l : List Place) : List Place := (List.range l.length).map fun (i : Nat) => mkEP (k + 2 * (i : Int))
theorem RdP.below {w w' : World} {v : Sv} {l : List Place} (h : RdP w v l) (hb : Below w.heap.size w w') : RdP w' v l := Row.below h hb
theorem RdP.len {w : World} {v : Sv} {l : List Place} (h : RdP w v l) : Hid (l.length = v.n) := Row.len h
theorem mkP_len (k : Int) (l : List Place) : (mkP k l).length = l.length := by simp [mkP]
theorem cntP_le (l : List Place) : cntP l ≤ 2 * bulkP l := by unfold cntP bulkP; omega

/-! ### PacketS -/
def RdK (w : World) (v : Sv) (l : List Packet) : Prop := Row w v.A v.n 4 (l.map Packet.cells)
def fpK (v : Sv) : List Nat := obl v.A
def lenK (v : Sv) : Prop := v.n ≤ maxLen
def okK (l : List Packet) : Prop := ∀ x ∈ l, Packet.ok x
def bulkK (l : List Packet) : Nat := l.length + sumBulk Packet.bulk l
def fewK (l : List Packet) : Prop := l.length ≤ 1048576
theorem fewK_of {l : List Packet} (h : bulkK l ≤ 1048576) : fewK l := by unfold bulkK at h; unfold fewK; omega
def cntK (l : List Packet) : Nat := 4 * l.length
theorem cntK_few {l : List Packet} (h : fewK l) : (cntK l : Int) ≤ 20000000 := by unfold cntK; unfold fewK at h; omega
def mkEK (k : Int) : Packet := ⟨k % 3 == 0, k + 1, markTxt (k + 2), k + 3⟩
def mkK (k : Int) (l : List Packet) : List Packet := (List.range l.length).map fun (i : Nat) => mkEK (k + 4 * (i : Int))
theorem RdK.below {w w' : World} {v : Sv} {l : List Packet} (h : RdK w v l) (hb : Below w.heap.size w w') : RdK w' v l := Row.below h hb
theorem RdK.len {w : World} {v : Sv} {l : List Packet} (h : RdK w v l) : Hid (l.length = v.n) := Row.len h
theorem mkK_len (k : Int) (l : List Packet) : (mkK k l).length = l.length := by simp [mkK]
theorem cntK_le (l : List Packet) : cntK l ≤ 4 * bulkK l := by unfold cntK bulkK; omega

/-! ### StringS -/
def RdS (w : World) (v : Sv) (l : List ByteArray) : Prop := Row w v.A v.n 1 (l.map strCells)
def fpS (v : Sv) : List Nat := obl v.A
def lenS (v : Sv) : Prop := v.n ≤ maxLen
def okS (l : List ByteArray) : Prop := ∀ x ∈ l, x.size ≤ maxLen
def bulkS (l : List ByteArray) : Nat := l.length + sumBulk ByteArray.size l
def fewS (l : List ByteArray) : Prop := l.length ≤ 1048576
theorem fewS_of {l : List ByteArray} (h : bulkS l ≤ 1048576) : fewS l := by unfold bulkS at h; unfold fewS; omega
def cntS (l : List ByteArray) : Nat := 1 * l.length
theorem cntS_few {l : List ByteArray} (h : fewS l) : (cntS l : Int) ≤ 20000000 := by unfold cntS; unfold fewS at h; omega
def mkES (k : Int) : ByteArray := markTxt k
def mkS (k : Int) (l : List ByteArray) : List ByteArray := (List.range l.length).map fun (i : Nat) => mkES (k + 1 * (i : Int))
theorem RdS.below {w w' : World} {v : Sv} {l : List ByteArray} (h : RdS w v l) (hb : Below w.heap.size w w') : RdS w' v l := Row.below h hb
theorem RdS.len {w : World} {v : Sv} {l : List ByteArray} (h : RdS w v l) : Hid (l.length = v.n) := Row.len h
theorem mkS_len (k : Int) (l : List ByteArray) : (mkS k l).length = l.length := by simp [mkS]
theorem cntS_le (l : List ByteArray) : cntS l ≤ 1 * bulkS l := by unfold cntS bulkS; omega
def OwS (w : World) (v : Sv) (l : List ByteArray) : Prop := Own w 0 9 1 v.A v.n v.c (l.map strCells)
theorem OwS.own {w : World} {v : Sv} {l : List ByteArray} (h : OwS w v l) : Own w 0 9 1 v.A v.n v.c (l.map strCells) := h
theorem OwS.rd {w : World} {v : Sv} {l : List ByteArray} (h : OwS w v l) : RdS w v l := Own.row h
theorem OwS.lt {w : World} {v : Sv} {l : List ByteArray} (h : OwS w v l) : ∀ k ∈ fpS v, k < w.heap.size := fun k hk => (Own.lt h k (mem_obl.1 hk)).2
theorem OwS.keep {w w' : World} {v : Sv} {l : List ByteArray} (h : OwS w v l) (hw : ∀ k ∈ fpS v, w'.heap[k]? = w.heap[k]?) : OwS w' v l := Own.keep h fun g hg => hw g (mem_obl.2 hg)
theorem OwS.below {w w' : World} {v : Sv} {l : List ByteArray} (h : OwS w v l) (hb : Below w.heap.size w w') : OwS w' v l := h.keep fun k hk => hb.block k (h.lt k hk)
theorem OwS.upd {w w' : World} {v : Sv} {l : List ByteArray} {fs : List Nat} (h : OwS w v l) (hu : Upd fs w w') (hd : ∀ k ∈ fpS v, k ∉ fs) : OwS w' v l := h.keep fun k hk => hu.block k (h.lt k hk) (hd k hk)

/-! ### IntS -/
def RdI (w : World) (v : Sv) (l : List Int) : Prop := Row w v.A v.n 1 (l.map intCells)
def fpI (v : Sv) : List Nat := obl v.A
def lenI (v : Sv) : Prop := v.n ≤ maxLen
def okI (l : List Int) : Prop := ∀ x ∈ l, True
def bulkI (l : List Int) : Nat := l.length + sumBulk (fun _ => 0) l
def fewI (l : List Int) : Prop := l.length ≤ 1048576
theorem fewI_of {l : List Int} (h : bulkI l ≤ 1048576) : fewI l := by unfold bulkI at h; unfold fewI; omega
def cntI (l : List Int) : Nat := 1 * l.length
theorem cntI_few {l : List Int} (h : fewI l) : (cntI l : Int) ≤ 20000000 := by unfold cntI; unfold fewI at h; omega
def mkEI (k : Int) : Int := k
def mkI (k : Int) (l : List Int) : List Int := (List.range l.length).map fun (i : Nat) => mkEI (k + 1 * (i : Int))
theorem RdI.below {w w' : World} {v : Sv} {l : List Int} (h : RdI w v l) (hb : Below w.heap.size w w') : RdI w' v l := Row.below h hb
theorem RdI.len {w : World} {v : Sv} {l : List Int} (h : RdI w v l) : Hid (l.length = v.n) := Row.len h
theorem mkI_len (k : Int) (l : List Int) : (mkI k l).length = l.length := by simp [mkI]
theorem cntI_le (l : List Int) : cntI l ≤ 1 * bulkI l := by unfold cntI bulkI; omega
def OwI (w : World) (v : Sv) (l : List Int) : Prop := Own w 0 3 1 v.A v.n v.c (l.map intCells)
theorem OwI.own {w : World} {v : Sv} {l : List Int} (h : OwI w v l) : Own w 0 3 1 v.A v.n v.c (l.map intCells) := h
theorem OwI.rd {w : World} {v : Sv} {l : List Int} (h : OwI w v l) : RdI w v l := Own.row h
theorem OwI.lt {w : World} {v : Sv} {l : List Int} (h : OwI w v l) : ∀ k ∈ fpI v, k < w.heap.size := fun k hk => (Own.lt h k (mem_obl.1 hk)).2
theorem OwI.keep {w w' : World} {v : Sv} {l : List Int} (h : OwI w v l) (hw : ∀ k ∈ fpI v, w'.heap[k]? = w.heap[k]?) : OwI w' v l := Own.keep h fun g hg => hw g (mem_obl.2 hg)
theorem OwI.below {w w' : World} {v : Sv} {l : List Int} (h : OwI w v l) (hb : Below w.heap.size w w') : OwI w' v l := h.keep fun k hk => hb.block k (h.lt k hk)
theorem OwI.upd {w w' : World} {v : Sv} {l : List Int} {fs : List Nat} (h : OwI w v l) (hu : Upd fs w w') (hd : ∀ k ∈ fpI v, k ∉ fs) : OwI w' v l := h.keep fun k hk => hu.block k (h.lt k hk) (hd k hk)

/-! ### EntryS -/
def RdN (w : World) (v : Sv) (l : List Entry) : Prop := Row w v.A v.n 10 (l.map Entry.cells)
def fpN (v : Sv) : List Nat := obl v.A
def lenN (v : Sv) : Prop := v.n ≤ maxLen
def okN (l : List Entry) : Prop := ∀ x ∈ l, Entry.ok x
def bulkN (l : List Entry) : Nat := l.length + sumBulk Entry.bulk l
def fewN (l : List Entry) : Prop := l.length ≤ 1048576
theorem fewN_of {l : List Entry} (h : bulkN l ≤ 1048576) : fewN l := by unfold bulkN at h; unfold fewN; omega
def cntN (l : List Entry) : Nat := 10 * l.length
theorem cntN_few {l : List Entry} (h : fewN l) : (cntN l : Int) ≤ 20000000 := by unfold cntN; unfold fewN at h; omega
def mkEN (k : Int) : Entry := ⟨k % 3 == 0, k + 1, ⟨k + 2, k + 3, markTxt (k + 4), markTxt (k + 5), ⟨k + 6, k + 7, k + 8⟩, k + 9⟩⟩
def mkN (k : Int) (l : List Entry) : List Entry := (List.range l.length).map fun (i : Nat) => mkEN (k + 10 * (i : Int))
theorem RdN.below {w w' : World} {v : Sv} {l : List Entry} (h : RdN w v l) (hb : Below w.heap.size w w') : RdN w' v l := Row.below h hb
theorem RdN.len {w : World} {v : Sv} {l : List Entry} (h : RdN w v l) : Hid (l.length = v.n) := Row.len h
theorem mkN_len (k : Int) (l : List Entry) : (mkN k l).length = l.length := by simp [mkN]
theorem cntN_le (l : List Entry) : cntN l ≤ 10 * bulkN l := by unfold cntN bulkN; omega
def OwN (w : World) (v : Sv) (l : List Entry) : Prop := Own w 0 62 10 v.A v.n v.c (l.map Entry.cells)
theorem OwN.own {w : World} {v : Sv} {l : List Entry} (h : OwN w v l) : Own w 0 62 10 v.A v.n v.c (l.map Entry.cells) := h
theorem OwN.rd {w : World} {v : Sv} {l : List Entry} (h : OwN w v l) : RdN w v l := Own.row h
theorem OwN.lt {w : World} {v : Sv} {l : List Entry} (h : OwN w v l) : ∀ k ∈ fpN v, k < w.heap.size := fun k hk => (Own.lt h k (mem_obl.1 hk)).2
theorem OwN.keep {w w' : World} {v : Sv} {l : List Entry} (h : OwN w v l) (hw : ∀ k ∈ fpN v, w'.heap[k]? = w.heap[k]?) : OwN w' v l := Own.keep h fun g hg => hw g (mem_obl.2 hg)
theorem OwN.below {w w' : World} {v : Sv} {l : List Entry} (h : OwN w v l) (hb : Below w.heap.size w w') : OwN w' v l := h.keep fun k hk => hb.block k (h.lt k hk)
theorem OwN.upd {w w' : World} {v : Sv} {l : List Entry} {fs : List Nat} (h : OwN w v l) (hu : Upd fs w w') (hd : ∀ k ∈ fpN v, k ∉ fs) : OwN w' v l := h.keep fun k hk => hu.block k (h.lt k hk) (hd k hk)
theorem eqEntryS_k (v v2 : Sv) (l : List Entry) (w : World) (hm : fewN l) (hr : RdN w v l) (hr2 : RdN w v2 l) :
    Calls Tryd.prog 42 #[.slice v.A v.n v.c, .slice v2.A v2.n v2.c] w fun e w' => e = rBool true ∧ Below w.heap.size w w' := by
  have e : v2.n = v.n := hr2.len.out.symm.trans hr.len.out
  obtain ⟨A2, n2, c2⟩ := v2
  dsimp only at e hr2
  subst e
  exact eqEntryS_c v.A A2 v.n v.c c2 l w (by have := hr.len.out; unfold fewN at hm; omega) hr hr2
theorem mkN_cells {k : Int} {l : List Entry} {n : Nat} (h : Hid (l.length = n)) : (mkN k l).map Entry.cells = (List.range n).map (markEntry k) := by
  rw [← h.out]
  simp only [mkN, List.map_map]
  rfl
theorem markEntryS_k (v : Sv) (l : List Entry) (k0 : Int) (w : World) (hk0 : 0 ≤ k0) (hk1 : k0 ≤ 10000000000) (hm : fewN l) (ho : OwN w v l) (hnd : (fpN v).Nodup) :
    Calls Tryd.prog 43 #[.slice v.A v.n v.c, .int .i64 k0] w fun e w' => e = rInt (k0 + cntN l) ∧ OwN w' v (mkN k0 l) ∧ Upd (fpN v) w w' :=
  (markEntryS_c v.A v.n v.c 0 _ k0 w (by have := ho.rd.len.out; unfold fewN at hm; omega) hk0 (by omega) ho).mono fun e w' ⟨h1, h2, h3⟩ => ⟨by rw [h1]; unfold cntN; rw [ho.rd.len.out]; push_cast; rfl, by unfold OwN; rw [mkN_cells ho.rd.len]; exact h2, Upd.of_row h3⟩
theorem heldEntryS_k (v : Sv) (l : List Entry) (k0 : Int) (w : World) (hk0 : 0 ≤ k0) (hk1 : k0 ≤ 10000000000) (hm : fewN l) (hr : RdN w v (mkN k0 l)) :
    Calls Tryd.prog 44 #[.slice v.A v.n v.c, .int .i64 k0] w fun e w' => e = rInt (k0 + cntN l) ∧ Below w.heap.size w w' := by
  have e : Hid (l.length = v.n) := by have := hr.len.out; rw [mkN_len] at this; exact this
  refine (heldEntryS_c v.A v.n v.c k0 w (by have := e.out; unfold fewN at hm; omega) hk0 (by omega) (by rw [← mkN_cells e]; exact hr)).mono fun e' w' ⟨h1, h2⟩ => ⟨by rw [h1]; unfold cntN; rw [e.out]; push_cast; rfl, h2⟩

/-! ### PlaceEntryS -/
def RdL (w : World) (v : Sv) (l : List PlaceEntry) : Prop := Row w v.A v.n 3 (l.map PlaceEntry.cells)
def fpL (v : Sv) : List Nat := obl v.A
def lenL (v : Sv) : Prop := v.n ≤ maxLen
def okL (l : List PlaceEntry) : Prop := ∀ x ∈ l, True
def bulkL (l : List PlaceEntry) : Nat := l.length + sumBulk (fun _ => 0) l
def fewL (l : List PlaceEntry) : Prop := l.length ≤ 1048576
theorem fewL_of {l : List PlaceEntry} (h : bulkL l ≤ 1048576) : fewL l := by unfold bulkL at h; unfold fewL; omega
def cntL (l : List PlaceEntry) : Nat := 3 * l.length
theorem cntL_few {l : List PlaceEntry} (h : fewL l) : (cntL l : Int) ≤ 20000000 := by unfold cntL; unfold fewL at h; omega
def mkEL (k : Int) : PlaceEntry := ⟨k, k + 1, k + 2⟩
def mkL (k : Int) (l : List PlaceEntry) : List PlaceEntry := (List.range l.length).map fun (i : Nat) => mkEL (k + 3 * (i : Int))
theorem RdL.below {w w' : World} {v : Sv} {l : List PlaceEntry} (h : RdL w v l) (hb : Below w.heap.size w w') : RdL w' v l := Row.below h hb
theorem RdL.len {w : World} {v : Sv} {l : List PlaceEntry} (h : RdL w v l) : Hid (l.length = v.n) := Row.len h
theorem mkL_len (k : Int) (l : List PlaceEntry) : (mkL k l).length = l.length := by simp [mkL]
theorem cntL_le (l : List PlaceEntry) : cntL l ≤ 3 * bulkL l := by unfold cntL bulkL; omega

end Go.Proofs.YtebcdjpddoaajaaDoor

/- Bundles: how they lie in memory; the laws' helpers on them. -/
namespace Go.Proofs.YtebcdjpddoaajaaDoor
open Go.RowKit
set_option linter.unusedVariables false
set_option linter.unusedSimpArgs false
set_option maxHeartbeats 400000
set_option maxRecDepth 100000
def RdB (w : World) (v : Sv) (b : Bundle) : Prop := RdF w v b.factors
def OwB (w : World) (v : Sv) (b : Bundle) : Prop := OwF w v b.factors
def fpB (v : Sv) : List Nat := obl v.A
def lenB (v : Sv) : Prop := v.n ≤ maxLen
def okB (b : Bundle) : Prop := wfI b.robot ∧ okF b.factors
def bulkB (b : Bundle) : Nat := bulkF b.factors
def fewB (b : Bundle) : Prop := fewF b.factors
theorem fewB_of {b : Bundle} (h : bulkB b ≤ 1048576) : fewB b := fewF_of h
def cntB (b : Bundle) : Nat := cntF b.factors
def mkB (k : Int) (b : Bundle) : Bundle := ⟨b.robot, mkF k b.factors⟩
theorem cntB_few {b : Bundle} (h : fewB b) : (cntB b : Int) ≤ 10000000 := by unfold cntB cntF; unfold fewB fewF at h; omega
theorem RdB.len {w : World} {v : Sv} {b : Bundle} (h : RdB w v b) : Hid (b.factors.length = v.n) := RdF.len h
theorem OwB.rd {w : World} {v : Sv} {b : Bundle} (h : OwB w v b) : RdB w v b := OwF.rd h
theorem RdB.below {w w' : World} {v : Sv} {b : Bundle} (h : RdB w v b) (hb : Below w.heap.size w w') : RdB w' v b := RdF.below h hb
theorem OwB.below {w w' : World} {v : Sv} {b : Bundle} (h : OwB w v b) (hb : Below w.heap.size w w') : OwB w' v b := OwF.below h hb
theorem OwB.upd {w w' : World} {v : Sv} {b : Bundle} {fs : List Nat} (h : OwB w v b) (hu : Upd fs w w') (hd : ∀ k ∈ fpB v, k ∉ fs) : OwB w' v b := OwF.upd h hu hd
theorem OwB.lt {w : World} {v : Sv} {b : Bundle} (h : OwB w v b) : ∀ k ∈ fpB v, k < w.heap.size := OwF.lt h
theorem OwB.keep {w w' : World} {v : Sv} {b : Bundle} (h : OwB w v b) (hw : ∀ k ∈ fpB v, w'.heap[k]? = w.heap[k]?) : OwB w' v b := OwF.keep h hw
theorem bun_end {w w1 X : World} {v1 : Sv} {b : Bundle} {B : Nat} (hlo : Hid (∀ q ∈ fpF v1, w.heap.size + 3 ≤ q)) (ho : OwF w1 v1 b.factors) (hf : Fresh B w1 (fpF v1)) (H : Below w.heap.size w w1) (hz : w.heap.size + 3 ≤ w1.heap.size)
    (u : Upd [w.heap.size + 1, w.heap.size + 1 + 1] w1 X) : OwB X v1 b ∧ Fresh w.heap.size X (fpB v1) ∧ Below w.heap.size w X := by
  have a0 : ∀ k ∈ [w.heap.size + 1, w.heap.size + 1 + 1], k < w.heap.size + 3 := by intro k hk; simp at hk; omega
  refine ⟨OwF.upd ho u (fun k hk hm => by have h1 := hlo.out k hk; have h2 := a0 k hm; omega), ⟨hf.nodup, fun g hg => by have := hlo.out g hg; omega, fun g hg => Nat.lt_of_lt_of_le (hf.hi g hg) u.size⟩, bUpd H u (fun k hk => by simp at hk; omega)⟩
theorem eqBundle_k (v v2 : Sv) (b : Bundle) (w : World) (hm : fewB b) (hr : RdB w v b) (hr2 : RdB w v2 b) :
    Calls Tryd.prog 33 #[vBundle b.robot v.A v.n v.c, vBundle b.robot v2.A v2.n v2.c] w fun e w' => e = rBool true ∧ Below w.heap.size w w' := by
  go_enter Tryd.func33, Tryd.ntmps33
  go_wp2_with fail
  refine Calls.mono (eqFactorS_k v v2 b.factors _ hm ?_ ?_) ?_
  · exact RdF.below hr (bAlloc (bAlloc (Below.refl _ _) _) _)
  · exact RdF.below hr2 (bAlloc (bAlloc (Below.refl _ _) _) _)
  rintro e w1 ⟨rfl, hb1⟩
  go_wp2
  go_ret
  exact ⟨rfl, bTrans (bAlloc (bAlloc (Below.refl _ _) _) _) hb1⟩
theorem markBundle_k (v : Sv) (b : Bundle) (k0 : Int) (w : World) (hk0 : 0 ≤ k0) (hk1 : k0 ≤ 10000000000) (hm : fewB b) (ho : OwB w v b) (hnd : (fpB v).Nodup) :
    Calls Tryd.prog 34 #[vBundle b.robot v.A v.n v.c, .int .i64 k0] w fun e w' => e = rInt (k0 + cntB b) ∧ OwB w' v (mkB k0 b) ∧ Upd (fpB v) w w' := by
  go_enter Tryd.func34, Tryd.ntmps34
  go_wp2_with fail
  refine Calls.mono (markFactorS_k v b.factors _ _ hk0 hk1 hm ?_ hnd) ?_
  · exact OwF.below ho (bAlloc (Below.refl _ _) _)
  rintro e w1 ⟨rfl, h1, h2⟩
  go_wp2_with fail
  go_ret
  exact ⟨rfl, h1, (Upd.of_below (bAlloc (Below.refl _ _) _)).trans h2⟩
theorem heldBundle_k (v : Sv) (b : Bundle) (k0 : Int) (w : World) (hk0 : 0 ≤ k0) (hk1 : k0 ≤ 10000000000) (hm : fewB b) (hr : RdB w v (mkB k0 b)) (r : Int) :
    Calls Tryd.prog 35 #[vBundle r v.A v.n v.c, .int .i64 k0] w fun e w' => e = rInt (k0 + cntB b) ∧ Below w.heap.size w w' := by
  go_enter Tryd.func35, Tryd.ntmps35
  go_wp2_with fail
  refine Calls.mono (heldFactorS_k v b.factors _ _ hk0 hk1 hm ?_) ?_
  · exact RdF.below hr (bAlloc (Below.refl _ _) _)
  rintro e w1 ⟨rfl, h1⟩
  have hnn : ¬ (k0 + (cntF b.factors : Int)) < 0 := by omega
  go_wp2_with fail
  go_ret
  exact ⟨rfl, bTrans (bAlloc (Below.refl _ _) _) h1⟩
theorem bulkF_small {l : List Factor} (h : bulkF l ≤ 1048576) : ∀ f ∈ l, f.frm.size ≤ 1048576 ∧ f.to.size ≤ 1048576 := smallF (by unfold bulkF at h; unfold Hid; omega)
theorem spec_IsValidBundle_k (v : Sv) (b : Bundle) (w : World) (hm : bulkB b ≤ 1048576) (hok : okB b) (hr : RdB w v b) :
    Calls Tryd.prog 104 #[vBundle b.robot v.A v.n v.c] w fun e w' => e = rBool (isBundle b.robot b.factors) ∧ Below w.heap.size w w' :=
  spec_IsValidBundle_c b.robot v.A v.n v.c b.factors w (by have := hr.len.out; unfold bulkB bulkF at hm; omega) hr (bulkF_small hm)
theorem impl_IsValidBundle_k (v : Sv) (b : Bundle) (w : World) (hm : bulkB b ≤ 1048576) (hok : okB b) (hr : RdB w v b) :
    Calls Tryd.prog 62 #[vBundle b.robot v.A v.n v.c] w fun e w' => e = rBool (isBundle b.robot b.factors) ∧ Below w.heap.size w w' :=
  impl_IsValidBundle_c b.robot v.A v.n v.c b.factors w (by have := hr.len.out; unfold bulkB bulkF at hm; omega) hr (bulkF_small hm)
end Go.Proofs.YtebcdjpddoaajaaDoor

/- The names of a factor list: what the two NamesOf answer. -/
namespace Go.Proofs.YtebcdjpddoaajaaDoor
open Go.RowKit
set_option linter.unusedVariables false
set_option linter.unusedSimpArgs false
set_option maxHeartbeats 800000
set_option maxRecDepth 100000
def NmOfInv (l : List Factor) (k : Nat) (L : List ByteArray) : Prop := namesOf l = (l.drop k).foldl namesF L
theorem NmOfInv.start (l : List Factor) : NmOfInv l 0 [] := rfl
theorem NmOfInv.step {l : List Factor} {k : Nat} {L : List ByteArray} {f : Factor} (h : NmOfInv l k L) (hf : Hid (l[k]? = some f)) : NmOfInv l (k + 1) (namesF L f) := by
  unfold NmOfInv at *; rw [h, drop_at hf]; rfl
theorem NmOfInv.done {l : List Factor} {k n : Nat} {L : List ByteArray} (h : NmOfInv l k L) (hl : Hid (l.length = n)) (hk : ¬ k < n) : Hid (namesOf l = L) := by
  unfold NmOfInv at h; rw [Hid, h, drop_end hl hk]; rfl
theorem addNm_empty {L : List ByteArray} {s : ByteArray} (h : Hid (s.toList.isEmpty = true)) : addNm L s = L := by simp [addNm, h.out]
theorem addNm_has {L : List ByteArray} {s : ByteArray} (h : Hid (hasStr L s = true)) : addNm L s = L := by simp [addNm, h.out]
theorem addNm_new {L : List ByteArray} {s : ByteArray} (h : Hid (s.toList.isEmpty = false)) (h2 : Hid (hasStr L s = false)) : addNm L s = L ++ [s] := by simp [addNm, h.out, h2.out]
theorem strs_snoc (L : List ByteArray) (s : ByteArray) : L.map strCells ++ [strCells s] = (L ++ [s]).map strCells := by simp
/-- the call answers a new slice of strings that reads as L -/
def StrsPost (w : World) (e : Ending) (w' : World) (L : List ByteArray) (t : TypeId) (m : Nat) : Prop := ∃ v : Sv, e = .returned (.slice v.A v.n v.c) ∧ Own w' w.heap.size t 1 v.A v.n v.c (L.map strCells) ∧ Below w.heap.size w w' ∧ v.n ≤ m
theorem impl_NamesOf_c (A : Option Addr) (n c : Nat) (l : List Factor) (w : World) (hn : n ≤ 100000) (hr : RowF w A n l) :
    Calls Tryd.prog 17 #[.slice A n c] w fun e w' => StrsPost w e w' (namesOf l) 9 (2 * n) := by
  obtain ⟨i0, hii, hq0, hq1, hq2⟩ := info_parts info_String
  go_enter Tryd.func17, Tryd.ntmps17
  go_wp2
  go_loopw [9, 3] (fun i v wr => ∃ (k : Nat) (A' : Option Addr) (n' c' : Nat) (L : List ByteArray), k ≤ n ∧ n' ≤ 2 * k ∧ i = .int .i64 k ∧ v = .slice A' n' c' ∧ Own wr w.heap.size 9 1 A' n' c' (L.map strCells) ∧ NmOfInv l k L ∧ Below w.heap.size w wr) (fun i _ _ => n - (intOf i).toNat)
  case atStart => exact ⟨0, _, 0, 0, [], by omega, by omega, rfl, rfl, Own.made0 w 9 1 (Nat.le_refl _), NmOfInv.start l, bAlloc (Below.refl _ _) _⟩
  case round =>
    obtain ⟨k, A', n', c', L, hk, hnk, rfl, rfl, hown, hi, hb⟩ := hrel
    by_cases hlt : k < n
    · obtain ⟨f, g, off, hf, rfl, g0, g1, g2, g3, g4, g5, g6, g7⟩ := RowF.at_ (hr.below hb) hlt
      have hst := Lib.hid (hi.step hf)
      clear hi
      generalize hfe : f.frm.toList.isEmpty = fe
      generalize hte : f.to.toList.isEmpty = te
      have HF := Lib.hid hfe
      have HT := Lib.hid hte
      clear hfe hte
      cases fe
      · have hx0 : ¬ f.frm.toList = [] := by have := HF.out; simpa using this
        have hy0 : (!f.frm.toList.isEmpty) = true := by rw [HF.out]; rfl
        have hz0 : f.frm.toList.isEmpty = false := HF.out
        generalize hh0 : hasStr L f.frm = b0
        have HS0 := Lib.hid hh0
        clear hh0
        cases b0
        · have e0 := addNm_new HF HS0
          cases te
          · have hx1 : ¬ f.to.toList = [] := by have := HT.out; simpa using this
            have hy1 : (!f.to.toList.isEmpty) = true := by rw [HT.out]; rfl
            have hz1 : f.to.toList.isEmpty = false := HT.out
            generalize hh1 : hasStr (L ++ [f.frm]) f.to = b1
            have HS1 := Lib.hid hh1
            clear hh1
            cases b1
            · have e1 := addNm_new HT HS1
              go_wp2_with fail
              refine Calls.mono (hasString_c _ _ _ L f.frm _ (by omega) (hown.alloc_ _).row) ?_
              rintro e wx ⟨rfl, rfl⟩
              rw [HS0.out]
              go_wp2_with (at_builtin; refine wpList_append rfl (.tmp 23) (.tmp 26) 37 rfl w.heap.size 9 1 16 i0 _ Tryd.underlying37 hii hq0 hq1 hq2 rfl (by omega) A' n' c' _ rfl ((hown.alloc_ _).alloc_ _) _ 1 1 [strCells f.frm] rfl (Row.new1' _ _ _ 1 _ (by simp)) (by simp [strCells]) (by simp [strCells, Value.oneCell']) (by simp only [maxLen]; omega) (by omega) (bAlloc (bAlloc hb _) _).size ?_; intro A3 c3 w3 ho0 hg0 hat0; have hbx := gBox hg0 wr.heap.size (by simp; try omega) (fun q hq => by have h1 := (hown.lt q hq).2; omega); have hlw : wr.heap.size < w3.heap.size := (by have := hg0.size; simp at this; omega))
              have hB0 := bGrown (bAlloc (bAlloc hb _) _) hg0 (fun q hq => (hown.lt q hq).1)
              rw [strs_snoc] at ho0
              refine Calls.mono (hasString_c _ _ _ (L ++ [f.frm]) f.to _ (by omega) ho0.row) ?_
              rintro e wx ⟨rfl, rfl⟩
              rw [HS1.out]
              go_wp2_with (at_builtin; refine wpList_append rfl (.tmp 38) (.tmp 41) 37 rfl w.heap.size 9 1 16 i0 _ Tryd.underlying37 hii hq0 hq1 hq2 rfl (by omega) A3 (n' + 1) c3 _ rfl (ho0.alloc_ _) _ 1 1 [strCells f.to] rfl (Row.new1' _ _ _ 1 _ (by simp)) (by simp [strCells]) (by simp [strCells, Value.oneCell']) (by simp only [maxLen]; omega) (by omega) (bAlloc hB0 _).size ?_; intro A4 c4 w4 ho1 hg1 hat1)
              have hB1 := bGrown (bAlloc hB0 _) hg1 (fun q hq => (ho0.lt q hq).1)
              rw [strs_snoc] at ho1
              go_roundw
              case rel => exact ⟨k + 1, _, n' + 1 + 1, _, ((L ++ [f.frm]) ++ [f.to]), by omega, by omega, by go_num, rfl, ho1, by rw [namesF, e0, e1] at hst; exact hst.out, hB1⟩
              case measure => simp [intOf]; omega
            · have e1 := addNm_has HS1
              go_wp2_with fail
              refine Calls.mono (hasString_c _ _ _ L f.frm _ (by omega) (hown.alloc_ _).row) ?_
              rintro e wx ⟨rfl, rfl⟩
              rw [HS0.out]
              go_wp2_with (at_builtin; refine wpList_append rfl (.tmp 23) (.tmp 26) 37 rfl w.heap.size 9 1 16 i0 _ Tryd.underlying37 hii hq0 hq1 hq2 rfl (by omega) A' n' c' _ rfl ((hown.alloc_ _).alloc_ _) _ 1 1 [strCells f.frm] rfl (Row.new1' _ _ _ 1 _ (by simp)) (by simp [strCells]) (by simp [strCells, Value.oneCell']) (by simp only [maxLen]; omega) (by omega) (bAlloc (bAlloc hb _) _).size ?_; intro A3 c3 w3 ho0 hg0 hat0; have hbx := gBox hg0 wr.heap.size (by simp; try omega) (fun q hq => by have h1 := (hown.lt q hq).2; omega); have hlw : wr.heap.size < w3.heap.size := (by have := hg0.size; simp at this; omega))
              have hB0 := bGrown (bAlloc (bAlloc hb _) _) hg0 (fun q hq => (hown.lt q hq).1)
              rw [strs_snoc] at ho0
              refine Calls.mono (hasString_c _ _ _ (L ++ [f.frm]) f.to _ (by omega) ho0.row) ?_
              rintro e wx ⟨rfl, rfl⟩
              rw [HS1.out]
              go_wp2_with fail
              go_roundw
              case rel => exact ⟨k + 1, _, n' + 1, _, (L ++ [f.frm]), by omega, by omega, by go_num, rfl, ho0, by rw [namesF, e0, e1] at hst; exact hst.out, hB0⟩
              case measure => simp [intOf]; omega
          · have hx1 : f.to.toList = [] := by have := HT.out; simpa using this
            have hy1 : (!f.to.toList.isEmpty) = false := by rw [HT.out]; rfl
            have hz1 : f.to.toList.isEmpty = true := HT.out
            have e1 : addNm (L ++ [f.frm]) f.to = (L ++ [f.frm]) := addNm_empty HT
            go_wp2_with fail
            refine Calls.mono (hasString_c _ _ _ L f.frm _ (by omega) (hown.alloc_ _).row) ?_
            rintro e wx ⟨rfl, rfl⟩
            rw [HS0.out]
            go_wp2_with (at_builtin; refine wpList_append rfl (.tmp 23) (.tmp 26) 37 rfl w.heap.size 9 1 16 i0 _ Tryd.underlying37 hii hq0 hq1 hq2 rfl (by omega) A' n' c' _ rfl ((hown.alloc_ _).alloc_ _) _ 1 1 [strCells f.frm] rfl (Row.new1' _ _ _ 1 _ (by simp)) (by simp [strCells]) (by simp [strCells, Value.oneCell']) (by simp only [maxLen]; omega) (by omega) (bAlloc (bAlloc hb _) _).size ?_; intro A3 c3 w3 ho0 hg0 hat0; have hbx := gBox hg0 wr.heap.size (by simp; try omega) (fun q hq => by have h1 := (hown.lt q hq).2; omega); have hlw : wr.heap.size < w3.heap.size := (by have := hg0.size; simp at this; omega))
            have hB0 := bGrown (bAlloc (bAlloc hb _) _) hg0 (fun q hq => (hown.lt q hq).1)
            rw [strs_snoc] at ho0
            go_roundw
            case rel => exact ⟨k + 1, _, n' + 1, _, (L ++ [f.frm]), by omega, by omega, by go_num, rfl, ho0, by rw [namesF, e0, e1] at hst; exact hst.out, hB0⟩
            case measure => simp [intOf]; omega
        · have e0 := addNm_has HS0
          cases te
          · have hx1 : ¬ f.to.toList = [] := by have := HT.out; simpa using this
            have hy1 : (!f.to.toList.isEmpty) = true := by rw [HT.out]; rfl
            have hz1 : f.to.toList.isEmpty = false := HT.out
            generalize hh1 : hasStr L f.to = b1
            have HS1 := Lib.hid hh1
            clear hh1
            cases b1
            · have e1 := addNm_new HT HS1
              go_wp2_with fail
              refine Calls.mono (hasString_c _ _ _ L f.frm _ (by omega) (hown.alloc_ _).row) ?_
              rintro e wx ⟨rfl, rfl⟩
              rw [HS0.out]
              go_wp2_with fail
              refine Calls.mono (hasString_c _ _ _ L f.to _ (by omega) (hown.alloc_ _).row) ?_
              rintro e wx ⟨rfl, rfl⟩
              rw [HS1.out]
              go_wp2_with (at_builtin; refine wpList_append rfl (.tmp 38) (.tmp 41) 37 rfl w.heap.size 9 1 16 i0 _ Tryd.underlying37 hii hq0 hq1 hq2 rfl (by omega) A' n' c' _ rfl ((hown.alloc_ _).alloc_ _) _ 1 1 [strCells f.to] rfl (Row.new1' _ _ _ 1 _ (by simp)) (by simp [strCells]) (by simp [strCells, Value.oneCell']) (by simp only [maxLen]; omega) (by omega) (bAlloc (bAlloc hb _) _).size ?_; intro A4 c4 w4 ho1 hg1 hat1)
              have hB1 := bGrown (bAlloc (bAlloc hb _) _) hg1 (fun q hq => (hown.lt q hq).1)
              rw [strs_snoc] at ho1
              go_roundw
              case rel => exact ⟨k + 1, _, n' + 1, _, (L ++ [f.to]), by omega, by omega, by go_num, rfl, ho1, by rw [namesF, e0, e1] at hst; exact hst.out, hB1⟩
              case measure => simp [intOf]; omega
            · have e1 := addNm_has HS1
              go_wp2_with fail
              refine Calls.mono (hasString_c _ _ _ L f.frm _ (by omega) (hown.alloc_ _).row) ?_
              rintro e wx ⟨rfl, rfl⟩
              rw [HS0.out]
              go_wp2_with fail
              refine Calls.mono (hasString_c _ _ _ L f.to _ (by omega) (hown.alloc_ _).row) ?_
              rintro e wx ⟨rfl, rfl⟩
              rw [HS1.out]
              go_wp2_with fail
              go_roundw
              case rel => exact ⟨k + 1, _, n', _, L, by omega, by omega, by go_num, rfl, (hown.alloc_ _), by rw [namesF, e0, e1] at hst; exact hst.out, (bAlloc hb _)⟩
              case measure => simp [intOf]; omega
          · have hx1 : f.to.toList = [] := by have := HT.out; simpa using this
            have hy1 : (!f.to.toList.isEmpty) = false := by rw [HT.out]; rfl
            have hz1 : f.to.toList.isEmpty = true := HT.out
            have e1 : addNm L f.to = L := addNm_empty HT
            go_wp2_with fail
            refine Calls.mono (hasString_c _ _ _ L f.frm _ (by omega) (hown.alloc_ _).row) ?_
            rintro e wx ⟨rfl, rfl⟩
            rw [HS0.out]
            go_wp2_with fail
            go_roundw
            case rel => exact ⟨k + 1, _, n', _, L, by omega, by omega, by go_num, rfl, (hown.alloc_ _), by rw [namesF, e0, e1] at hst; exact hst.out, (bAlloc hb _)⟩
            case measure => simp [intOf]; omega
      · have hx0 : f.frm.toList = [] := by have := HF.out; simpa using this
        have hy0 : (!f.frm.toList.isEmpty) = false := by rw [HF.out]; rfl
        have hz0 : f.frm.toList.isEmpty = true := HF.out
        have e0 : addNm L f.frm = L := addNm_empty HF
        cases te
        · have hx1 : ¬ f.to.toList = [] := by have := HT.out; simpa using this
          have hy1 : (!f.to.toList.isEmpty) = true := by rw [HT.out]; rfl
          have hz1 : f.to.toList.isEmpty = false := HT.out
          generalize hh1 : hasStr L f.to = b1
          have HS1 := Lib.hid hh1
          clear hh1
          cases b1
          · have e1 := addNm_new HT HS1
            go_wp2_with fail
            refine Calls.mono (hasString_c _ _ _ L f.to _ (by omega) (hown.alloc_ _).row) ?_
            rintro e wx ⟨rfl, rfl⟩
            rw [HS1.out]
            go_wp2_with (at_builtin; refine wpList_append rfl (.tmp 38) (.tmp 41) 37 rfl w.heap.size 9 1 16 i0 _ Tryd.underlying37 hii hq0 hq1 hq2 rfl (by omega) A' n' c' _ rfl ((hown.alloc_ _).alloc_ _) _ 1 1 [strCells f.to] rfl (Row.new1' _ _ _ 1 _ (by simp)) (by simp [strCells]) (by simp [strCells, Value.oneCell']) (by simp only [maxLen]; omega) (by omega) (bAlloc (bAlloc hb _) _).size ?_; intro A4 c4 w4 ho1 hg1 hat1)
            have hB1 := bGrown (bAlloc (bAlloc hb _) _) hg1 (fun q hq => (hown.lt q hq).1)
            rw [strs_snoc] at ho1
            go_roundw
            case rel => exact ⟨k + 1, _, n' + 1, _, (L ++ [f.to]), by omega, by omega, by go_num, rfl, ho1, by rw [namesF, e0, e1] at hst; exact hst.out, hB1⟩
            case measure => simp [intOf]; omega
          · have e1 := addNm_has HS1
            go_wp2_with fail
            refine Calls.mono (hasString_c _ _ _ L f.to _ (by omega) (hown.alloc_ _).row) ?_
            rintro e wx ⟨rfl, rfl⟩
            rw [HS1.out]
            go_wp2_with fail
            go_roundw
            case rel => exact ⟨k + 1, _, n', _, L, by omega, by omega, by go_num, rfl, (hown.alloc_ _), by rw [namesF, e0, e1] at hst; exact hst.out, (bAlloc hb _)⟩
            case measure => simp [intOf]; omega
        · have hx1 : f.to.toList = [] := by have := HT.out; simpa using this
          have hy1 : (!f.to.toList.isEmpty) = false := by rw [HT.out]; rfl
          have hz1 : f.to.toList.isEmpty = true := HT.out
          have e1 : addNm L f.to = L := addNm_empty HT
          go_wp2_with fail
          go_roundw
          case rel => exact ⟨k + 1, _, n', _, L, by omega, by omega, by go_num, rfl, (hown.alloc_ _), by rw [namesF, e0, e1] at hst; exact hst.out, (bAlloc hb _)⟩
          case measure => simp [intOf]; omega
    · have hfin := hi.done hr.len hlt
      go_wp2
      go_ret
      refine ⟨⟨A', n', c'⟩, rfl, ?_, hb, by simp only; omega⟩
      rw [hfin.out]; exact hown
end Go.Proofs.YtebcdjpddoaajaaDoor

/- The names of a factor list: the reference's way. -/
namespace Go.Proofs.YtebcdjpddoaajaaDoor
open Go.RowKit
set_option linter.unusedVariables false
set_option linter.unusedSimpArgs false
set_option maxHeartbeats 800000
set_option maxRecDepth 100000
def StInv (L : List ByteArray) (f : Factor) (j : Nat) (M : List ByteArray) : Prop := M = ([f.frm, f.to].take j).foldl addNm L
theorem StInv.step {L M : List ByteArray} {f : Factor} {j : Nat} {s : ByteArray} (h : StInv L f j M) (hs : Hid ([f.frm, f.to][j]? = some s)) : StInv L f (j + 1) (addNm M s) := by
  obtain ⟨hj, rfl⟩ := List.getElem?_eq_some_iff.1 hs.out
  unfold StInv at *
  rw [List.take_succ_eq_append_getElem hj, List.foldl_append, ← h]
  rfl
theorem StInv.done {L M : List ByteArray} {f : Factor} {j : Nat} (h : StInv L f j M) (hj : ¬ j < 2) : namesF L f = M := by
  unfold StInv at h
  rw [h, List.take_of_length_le (by simp; omega)]
  rfl
end Go.Proofs.YtebcdjpddoaajaaDoor
