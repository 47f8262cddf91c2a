/- copyStrings, copyChannel, TakeInbox, Offer: what the two of each answer. -/
import Derived.Test.YtgpmmmfnbphgdaaReg
import Derived.Test.YtgpmmmfnbphgdaaObj
import Derived.Test.YtgpmmmfnbphgdaaData
import Derived.Test.YtgpmmmfnbphgdaaOwn
import Derived.Test.YtgpmmmfnbphgdaaProg
import Derived.Test.YtgpmmmfnbphgdaaTo
import Derived.BigQuiet
import Derived.Deep.QuietTactic
import Derived.StillTailTactics
import Derived.Deep.RegionHeld3
import Derived.Test.YtgpmmmfnbphgdaaMark2
import Derived.Test.YtgpmmmfnbphgdaaOpen
import Derived.Outline
import Derived.Test.YtgpmmmfnbphgdaaFlat
namespace Go.Proofs.Ytgpmmmfnbphgdaa
open Go.RowKit
set_option linter.unusedVariables false
set_option linter.unusedSimpArgs false
set_option maxHeartbeats 400000
set_option maxRecDepth 100000
theorem Own.made' (w : World) {B g : Nat} (e sz : Nat) (hB : B ≤ w.heap.size) (hg : g = w.heap.size) : Own (w.alloc (.cells #[] e)) B e sz (some ⟨g, 0, none⟩) 0 0 [] := by subst hg; exact Own.made0 w e sz hB
theorem one_S {l : List ByteArray} : ∀ cs ∈ l.map strCells, cs.length = 1 := fun cs h => by obtain ⟨f, _, rfl⟩ := List.mem_map.1 h; rfl
theorem cell_S {l : List ByteArray} : ∀ cs ∈ l.map strCells, ∀ u ∈ cs, u.oneCell' = true := fun cs h => by obtain ⟨f, _, rfl⟩ := List.mem_map.1 h; exact one_of rfl
theorem one_K {l : List Packet} : ∀ cs ∈ l.map Packet.cells, cs.length = 4 := fun cs h => by obtain ⟨f, _, rfl⟩ := List.mem_map.1 h; rfl
theorem cell_K {l : List Packet} : ∀ cs ∈ l.map Packet.cells, ∀ u ∈ cs, u.oneCell' = true := fun cs h => by obtain ⟨f, _, rfl⟩ := List.mem_map.1 h; exact one_of rfl
theorem gBoxF {w w' : World} {row : Option Nat} (hg : w.grownBy w' row) (b : Nat) (hb : b < w.heap.size) (hne : ∀ k, row = some k → k ≠ b) : ∀ o, w'.frozen? ⟨b, o, none⟩ = w.frozen? ⟨b, o, none⟩ :=
  fun o => World.frozen?_of_block (a := ⟨b, o, none⟩) (hg.block b hb (fun e => hne b e.symm rfl))
theorem Upd.grown_new {fs : List Nat} {a b c : World} {g : Nat} (h : Upd fs a b) (k : b.grownBy c (ob (some ⟨g, 0, none⟩))) (hg : a.heap.size ≤ g) : Upd fs a c :=
  ⟨k.os.trans h.os, k.tape.trans h.tape, k.output.trans h.output, Nat.le_trans h.size k.size, fun i hi hn => (k.block i (Nat.lt_of_lt_of_le hi h.size) (by simp [ob]; omega)).trans (h.block i hi hn)⟩
theorem upd1 {a b : World} {g : Nat} (h : a.grownBy b (some g)) : Upd [g] a b := Upd.of_grown h fun k hk => by simp only [Option.some.injEq] at hk; subst hk; simp
/-! ### boxes: a struct's own block, as a slice of one element -/
theorem Own.box {w : World} {b t sz : Nat} {cs : List Value} (h : w.heap[b]? = some (.cells cs.toArray t (0, 0))) (hl : cs.length = sz) : Own w 0 t sz (some ⟨b, 0, none⟩) 1 1 [cs] :=
  ⟨⟨by simp [hl], .inr ⟨b, 1, cs.toArray, rfl, Nat.zero_le _, h, Nat.le_refl _, by simp [maxLen], by simp [hl], by rw [List.take_of_length_le (by simp [hl])]; simp⟩⟩, rfl, by simp [hl]⟩
theorem Own.bcell {w : World} {b t sz : Nat} {cs : List Value} (h : Own w 0 t sz (some ⟨b, 0, none⟩) 1 1 [cs]) : ∀ (j : Nat) (u : Value), cs[j]? = some u → w.cell? ⟨b, j, none⟩ = some u := by
  intro j u hu
  obtain ⟨g', off', hA, hc⟩ := h.row.2 0 cs rfl
  simp only [Option.some.injEq, Addr.mk.injEq, and_true] at hA
  obtain ⟨rfl, rfl⟩ := hA
  simpa using hc j u hu
theorem box1 (w : World) (o : Obj) : (w.alloc o).heap[w.heap.size]? = some o := heap_alloc_new w o
theorem box2 (w : World) (o o2 : Obj) : ((w.alloc o).alloc o2).heap[w.heap.size]? = some o := ((bAlloc (Below.refl _ _) o2).block w.heap.size (by simp)).trans (box1 w o)
end Go.Proofs.Ytgpmmmfnbphgdaa
