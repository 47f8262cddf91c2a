/- Texts of this proof, one behind the other: Draw6. -/
import Derived.Deep.RegionLaw
import Derived.Deep.RegionHeld3
import Derived.BigRegion
import Derived.Deep.DeepCutAuto
import Derived.Test.YtdfemnffpaopfaaGreatDoorGrr8
import Derived.Test.YtdfemnffpaopfaaGreatDoorGrr9
import Derived.Test.YtdfemnffpaopfaaGreatDoorGrr11
import Derived.Test.YtdfemnffpaopfaaGreatDoorGrr13
/- l16List: a robot's path: valid factors. -/
namespace Go.Proofs.YtdfemnffpaopfaaGreatDoor
open Go.RowKit
set_option linter.unusedVariables false
set_option linter.unusedSimpArgs false
set_option maxHeartbeats 4000000
set_option maxRecDepth 100000
def poseCells (p : Pose) : List Value := [.int .i64 p.turn, .int .i64 p.x, .int .i64 p.y]
/-- the landmark's name j -/
def mnm (j : Nat) : ByteArray := ⟨#[109]⟩ ++ itoaB (j : Int)
/-- a name that a draw makes -/
def nmOK (s : ByteArray) : Prop := s = ⟨#[]⟩ ∨ (∃ j, j ≤ 4 ∧ s = pnm j) ∨ (∃ j, j ≤ 1 ∧ s = mnm j)
def FOK (f : Factor) : Prop := vldFactor f = true ∧ nmOK f.frm ∧ nmOK f.to
/-- what l16List makes: valid factors of few names, their ids 1, 2, .. -/
def GOK (l : List Factor) : Prop := 0 < l.length ∧ (∀ f ∈ l, FOK f) ∧ ∀ (i : Nat) (f : Factor), l[i]? = some f → f.id = (i : Int) + 1
def FOKi (l : List Factor) (f : Factor) : Prop := FOK f ∧ f.id = (l.length : Int) + 1
/-- the state of l16List's first loop behind m rounds: the poses, the factors -/
structure PSt (W w wr : World) (b : Nat) (A : Option Addr) (n c : Nat) (m : Nat) (Aa : Option Addr) (ca : Nat) (ps : List Pose) (Al : Option Addr) (cl : Nat) (l : List Factor) : Prop where
  cur : Cur W wr b A n c
  upd : Upd [b] w wr
  at_ : Own wr w.heap.size 32 3 Aa (m + 1) ca (ps.map poseCells)
  fl : Own wr w.heap.size 34 8 Al l.length cl (l.map Factor.cells)
  ap : ∀ q ∈ obl Aa, q ∉ obl Al
  near : ∀ (i : Nat) (p : Pose), ps[i]? = some p → nearP (20 + 8 * i) p.turn p.x p.y
  ok : GOK l
theorem PSt.same {W w wr wr' : World} {b : Nat} {A : Option Addr} {n c m : Nat} {Aa : Option Addr} {ca : Nat} {ps : List Pose} {Al : Option Addr} {cl : Nat} {l : List Factor} (h : PSt W w wr b A n c m Aa ca ps Al cl l) (hlt : b < w.heap.size)
    (hc : Cur W wr' b A n c) (hu : Upd [b] wr wr') : PSt W w wr' b A n c m Aa ca ps Al cl l :=
  ⟨hc, h.upd.trans hu, h.at_.upd hu (fun q hq hm => by have h1 := (h.at_.lt q (mem_obl.1 hq)).1; simp at hm; omega), h.fl.upd hu (fun q hq hm => by have h1 := (h.fl.lt q (mem_obl.1 hq)).1; simp at hm; omega), h.ap, h.near, h.ok⟩
theorem PSt.alloc_ {W w wr : World} {b : Nat} {A : Option Addr} {n c m : Nat} {Aa : Option Addr} {ca : Nat} {ps : List Pose} {Al : Option Addr} {cl : Nat} {l : List Factor} (h : PSt W w wr b A n c m Aa ca ps Al cl l) (o : Obj) : PSt W w (wr.alloc o) b A n c m Aa ca ps Al cl l :=
  ⟨h.cur.alloc_ o, h.upd.alloc_ o, h.at_.alloc_ o, h.fl.alloc_ o, h.ap, h.near, h.ok⟩
theorem PSt.below {W w wr wr' : World} {b : Nat} {A : Option Addr} {n c m : Nat} {Aa : Option Addr} {ca : Nat} {ps : List Pose} {Al : Option Addr} {cl : Nat} {l : List Factor} (h : PSt W w wr b A n c m Aa ca ps Al cl l) (hb : Below wr.heap.size wr wr') : PSt W w wr' b A n c m Aa ca ps Al cl l :=
  ⟨h.cur.below hb, h.upd.then_below hb, h.at_.below hb, h.fl.below hb, h.ap, h.near, h.ok⟩
theorem PSt.set_ {W w wr : World} {b : Nat} {A : Option Addr} {n c m : Nat} {Aa : Option Addr} {ca : Nat} {ps : List Pose} {Al : Option Addr} {cl : Nat} {l : List Factor} (h : PSt W w wr b A n c m Aa ca ps Al cl l) {p : Addr} (hb : b < p.block) (hw : w.heap.size ≤ p.block) (h1 : ¬ ob Aa = some p.block) (h2 : ¬ ob Al = some p.block) (u : Value) : PSt W w (wr.setCell p u) b A n c m Aa ca ps Al cl l :=
  have hu : Upd [p.block] wr (wr.setCell p u) := (Upd.refl [p.block] wr).set_in (by simp) u
  ⟨h.cur.set_ hb u, h.upd.set_new hw u, h.at_.upd hu (fun q hq hm => by simp only [List.mem_singleton] at hm; subst hm; exact h1 (mem_obl.1 hq)), h.fl.upd hu (fun q hq hm => by simp only [List.mem_singleton] at hm; subst hm; exact h2 (mem_obl.1 hq)), h.ap, h.near, h.ok⟩
/-- region 16 of l16List: the state, the two poses' cells, the box of f -/
structure RS (W w : World) (b : Nat) (A : Option Addr) (n c m g off ca : Nat) (ps : List Pose) (Al : Option Addr) (cl : Nat) (l : List Factor) (ii jj : Nat) (p q : Pose) (cs : Array Value) (fz : Option Nat) (w' : World) : Prop where
  st : PSt W w w' b A n c m (some ⟨g, off, none⟩) ca ps Al cl l
  k : w'.cell? ⟨g, off + ii * 3, none⟩ = some (.int .i64 p.turn) ∧ w'.cell? ⟨g, off + ii * 3 + 1, none⟩ = some (.int .i64 p.x) ∧ w'.cell? ⟨g, off + ii * 3 + 2, none⟩ = some (.int .i64 p.y) ∧ w'.cell? ⟨g, off + jj * 3, none⟩ = some (.int .i64 q.turn) ∧ w'.cell? ⟨g, off + jj * 3 + 1, none⟩ = some (.int .i64 q.x) ∧ w'.cell? ⟨g, off + jj * 3 + 2, none⟩ = some (.int .i64 q.y)
  box : ∀ z, fz = some z → (∀ (k : Nat) (v : Value), cs[k]? = some v → w'.cell? ⟨z, k, none⟩ = some v) ∧ (∀ o, w'.frozen? ⟨z, o, none⟩ = false) ∧ b < z ∧ w.heap.size ≤ z ∧ z < w'.heap.size ∧ ¬ g = z ∧ ¬ ob Al = some z
theorem RS.below {W w : World} {b : Nat} {A : Option Addr} {n c m g off ca : Nat} {ps : List Pose} {Al : Option Addr} {cl : Nat} {l : List Factor} {ii jj : Nat} {p q : Pose} {cs : Array Value} {fz : Option Nat} {wr : World} (h : RS W w b A n c m g off ca ps Al cl l ii jj p q cs fz wr) (wr' : World) (hb : Below wr.heap.size wr wr') : RS W w b A n c m g off ca ps Al cl l ii jj p q cs fz wr' :=
  have B : ∀ {a : Addr} {v : Value}, wr.cell? a = some v → wr'.cell? a = some v := fun h => bCell hb h
  ⟨h.st.below hb, ⟨B h.k.1, B h.k.2.1, B h.k.2.2.1, B h.k.2.2.2.1, B h.k.2.2.2.2.1, B h.k.2.2.2.2.2⟩, fun z hz =>
    have H := h.box z hz
    ⟨fun k v hk => B (H.1 k v hk), fun o => (bBoxF hb z H.2.2.2.2.1 o).trans (H.2.1 o), H.2.2.1, H.2.2.2.1, Nat.lt_of_lt_of_le H.2.2.2.2.1 hb.size, H.2.2.2.2.2.1, H.2.2.2.2.2.2⟩⟩
theorem set_hit {w : World} {z k : Nat} (u : Value) {v : Value} (h : w.cell? ⟨z, k, none⟩ = some v) : (w.setCell ⟨z, k, none⟩ u).cell? ⟨z, k, none⟩ = some u := World.cell?_setCell_same _ _ _ h
theorem set_miss {w : World} {z k j : Nat} (u : Value) (hne : k ≠ j) {v : Value} (h : w.cell? ⟨z, j, none⟩ = some v) : (w.setCell ⟨z, k, none⟩ u).cell? ⟨z, j, none⟩ = some v := (World.cell?_setCell_other _ _ _ _ (fun e => hne (Addr.mk.inj e).2.1)).trans h
theorem RS.set1 {W w : World} {b : Nat} {A : Option Addr} {n c m g off ca : Nat} {ps : List Pose} {Al : Option Addr} {cl : Nat} {l : List Factor} {ii jj : Nat} {p q : Pose} {cs : Array Value} {wr : World} {z : Nat} (h : RS W w b A n c m g off ca ps Al cl l ii jj p q cs (some z) wr) (k : Nat) (u : Value) : RS W w b A n c m g off ca ps Al cl l ii jj p q (cs.setIfInBounds k u) (some z) (wr.setCell ⟨z, k, none⟩ u) := by
  have H := h.box z rfl
  have hg := (h.st.at_.lt g rfl)
  have hu : Upd [z] wr (wr.setCell ⟨z, k, none⟩ u) := (Upd.refl [z] wr).set_in (by simp) u
  have B : ∀ (o : Nat) {v : Value}, wr.cell? ⟨g, o, none⟩ = some v → (wr.setCell ⟨z, k, none⟩ u).cell? ⟨g, o, none⟩ = some v := fun o v hh => (uBox hu g hg.2 (by have := H.2.2.2.2.2.1; simpa using this) o).trans hh
  refine ⟨h.st.set_ (p := ⟨z, k, none⟩) H.2.2.1 H.2.2.2.1 (fun e => H.2.2.2.2.2.1 (Option.some.inj e)) H.2.2.2.2.2.2 u, ⟨B _ h.k.1, B _ h.k.2.1, B _ h.k.2.2.1, B _ h.k.2.2.2.1, B _ h.k.2.2.2.2.1, B _ h.k.2.2.2.2.2⟩, ?_⟩
  intro z' hz'
  cases hz'
  refine ⟨?_, fun o => ?_, H.2.2.1, H.2.2.2.1, Nat.lt_of_lt_of_le H.2.2.2.2.1 hu.size, H.2.2.2.2.2.1, H.2.2.2.2.2.2⟩
  · intro j v hj
    by_cases e : k = j
    · subst e
      by_cases hk : k < cs.size
      · rw [Array.getElem?_setIfInBounds_self_of_lt hk] at hj
        cases hj
        exact set_hit u (H.1 k _ (Array.getElem?_eq_getElem hk))
      · rw [Array.getElem?_eq_none (by simp; omega)] at hj
        cases hj
    · rw [Array.getElem?_setIfInBounds_ne e] at hj
      exact set_miss u e (H.1 j v hj)
  · have := H.2.1 o
    simpa using this
theorem RS.same {W w : World} {b : Nat} {A : Option Addr} {n c m g off ca : Nat} {ps : List Pose} {Al : Option Addr} {cl : Nat} {l : List Factor} {ii jj : Nat} {p q : Pose} {cs : Array Value} {fz : Option Nat} {wr wr' : World} (h : RS W w b A n c m g off ca ps Al cl l ii jj p q cs fz wr) (hlt : b < w.heap.size) (hc : Cur W wr' b A n c) (hu : Upd [b] wr wr') : RS W w b A n c m g off ca ps Al cl l ii jj p q cs fz wr' :=
  have h1 := h.st.at_.lt g rfl
  have B : ∀ (o : Nat) {v : Value}, wr.cell? ⟨g, o, none⟩ = some v → wr'.cell? ⟨g, o, none⟩ = some v := fun o v hh => (uBox hu g h1.2 (by simp; omega) o).trans hh
  ⟨h.st.same hlt hc hu, ⟨B _ h.k.1, B _ h.k.2.1, B _ h.k.2.2.1, B _ h.k.2.2.2.1, B _ h.k.2.2.2.2.1, B _ h.k.2.2.2.2.2⟩, fun z hz =>
    have H := h.box z hz
    have hzb : z ∉ [b] := by have := H.2.2.1; simp; omega
    ⟨fun k v hk => (uBox hu z H.2.2.2.2.1 hzb k).trans (H.1 k v hk), fun o => (uBoxF hu z H.2.2.2.2.1 hzb o).trans (H.2.1 o), H.2.2.1, H.2.2.2.1, Nat.lt_of_lt_of_le H.2.2.2.2.1 hu.size, H.2.2.2.2.2.1, H.2.2.2.2.2.2⟩⟩
end Go.Proofs.YtdfemnffpaopfaaGreatDoor

