/- copyStrings, copyChannel, TakeInbox, Offer: what the two of each answer. -/
import Derived.Test.YtgpmmmfnbphgdaaDoorCopy
import Derived.Test.YtgpmmmfnbphgdaaDoorFlat
namespace Go.Proofs.YtgpmmmfnbphgdaaDoor
open Go.RowKit
set_option linter.unusedVariables false
set_option linter.unusedSimpArgs false
set_option maxHeartbeats 400000
set_option maxRecDepth 100000
theorem Own.made' (w : World) {B g : Nat} (e sz : Nat) (hB : B ≤ w.heap.size) (hg : g = w.heap.size) : Own (w.alloc (.cells #[] e)) B e sz (some ⟨g, 0, none⟩) 0 0 [] := by subst hg; exact Own.made0 w e sz hB
theorem one_S {l : List ByteArray} : ∀ cs ∈ l.map strCells, cs.length = 1 := fun cs h => by obtain ⟨f, _, rfl⟩ := List.mem_map.1 h; rfl
theorem cell_S {l : List ByteArray} : ∀ cs ∈ l.map strCells, ∀ u ∈ cs, u.oneCell' = true := fun cs h => by obtain ⟨f, _, rfl⟩ := List.mem_map.1 h; exact one_of rfl
theorem one_K {l : List Packet} : ∀ cs ∈ l.map Packet.cells, cs.length = 4 := fun cs h => by obtain ⟨f, _, rfl⟩ := List.mem_map.1 h; rfl
theorem cell_K {l : List Packet} : ∀ cs ∈ l.map Packet.cells, ∀ u ∈ cs, u.oneCell' = true := fun cs h => by obtain ⟨f, _, rfl⟩ := List.mem_map.1 h; exact one_of rfl
theorem gBoxF {w w' : World} {row : Option Nat} (hg : w.grownBy w' row) (b : Nat) (hb : b < w.heap.size) (hne : ∀ k, row = some k → k ≠ b) : ∀ o, w'.frozen? ⟨b, o, none⟩ = w.frozen? ⟨b, o, none⟩ :=
  fun o => World.frozen?_of_block (a := ⟨b, o, none⟩) (hg.block b hb (fun e => hne b e.symm rfl))
theorem Upd.grown_new {fs : List Nat} {a b c : World} {g : Nat} (h : Upd fs a b) (k : b.grownBy c (ob (some ⟨g, 0, none⟩))) (hg : a.heap.size ≤ g) : Upd fs a c :=
  ⟨k.os.trans h.os, k.tape.trans h.tape, k.output.trans h.output, Nat.le_trans h.size k.size, fun i hi hn => (k.block i (Nat.lt_of_lt_of_le hi h.size) (by simp [ob]; omega)).trans (h.block i hi hn)⟩
theorem upd1 {a b : World} {g : Nat} (h : a.grownBy b (some g)) : Upd [g] a b := Upd.of_grown h fun k hk => by simp only [Option.some.injEq] at hk; subst hk; simp
theorem chan_end2 {w w1 w2 w3 w4 X : World} (bx : List Nat) {B0 B1 B2 B3 : Nat} {A0 A1 A2 A3 : Option Addr} {n0 n1 n2 n3 c0 c1 c2 c3 : Nat} {c : Chan} (H : Below w.heap.size w w1)
    (ho0 : Own w1 B0 9 1 A0 n0 c0 (c.queue.map strCells)) (u1 : Upd bx w1 w2) (ho1 : Own w2 B1 9 1 A1 n1 c1 (c.inbox.map strCells)) (u2 : Upd bx w2 w3)
    (ho2 : Own w3 B2 144 4 A2 n2 c2 (c.net.map Packet.cells)) (u3 : Upd bx w3 w4) (ho3 : Own w4 B3 144 4 A3 n3 c3 (c.acks.map Packet.cells)) (u4 : Upd bx w4 X)
    (hbx : ∀ k ∈ bx, w.heap.size ≤ k ∧ k < B0) (s0 : w.heap.size ≤ B0) (s00 : B0 ≤ w1.heap.size) (t1 : B1 ≤ w2.heap.size) (t2 : B2 ≤ w3.heap.size) (s1 : w1.heap.size ≤ B1) (s2 : w2.heap.size ≤ B2) (s3 : w3.heap.size ≤ B3) :
    OwC X ⟨⟨A0, n0, c0⟩, ⟨A1, n1, c1⟩, ⟨A2, n2, c2⟩, ⟨A3, n3, c3⟩⟩ c ∧ Fresh w.heap.size X (fpC ⟨⟨A0, n0, c0⟩, ⟨A1, n1, c1⟩, ⟨A2, n2, c2⟩, ⟨A3, n3, c3⟩⟩) ∧ Below w.heap.size w X := by
  have U4 := u4
  have U3 := u3.trans U4
  have U2 := u2.trans U3
  have U1 := u1.trans U2
  have y1 := u1.size; have y2 := u2.size; have y3 := u3.size; have y4 := u4.size
  refine ⟨⟨(ho0.upd U1 (Upd.apart ho0 fun k hk => (hbx k hk).2)).zero, (ho1.upd U2 (Upd.apart ho1 fun k hk => by have := (hbx k hk).2; omega)).zero, (ho2.upd U3 (Upd.apart ho2 fun k hk => by have := (hbx k hk).2; omega)).zero, (ho3.upd U4 (Upd.apart ho3 fun k hk => by have := (hbx k hk).2; omega)).zero⟩, ?_, bUpd H U1 (fun k hk => (hbx k hk).1)⟩
  exact ((Fresh.obl_ ho0).rebase s0).then_ ((Fresh.obl_ ho1).then_ ((Fresh.obl_ ho2).then_ ((Fresh.obl_ ho3).grow y4) (by omega) (by omega) (by omega)) (by omega) (by omega) (by omega)) (by omega) (by omega) (by omega)
theorem copyStrings_k (v : Sv) (l : List ByteArray) (w : World) (hm : v.n ≤ 4194304) (hr : RowS w v.A v.n l) :
    Calls Tryd.prog 121 #[.slice v.A v.n v.c] w fun e w' => ∃ A' c', e = .returned (.slice A' v.n c') ∧ Own w' w.heap.size 9 1 A' v.n c' (l.map strCells) ∧ Below w.heap.size w w' := by
  obtain ⟨i0, hii, hq0, hq1, hq2⟩ := info_parts info_String
  go_enter Tryd.func121, Tryd.ntmps121
  go_wp2_with (at_builtin; refine wpList_append rfl (.tmp 3) (.tmp 4) 23 rfl w.heap.size 9 1 16 i0 _ Tryd.underlying23 hii hq0 hq1 hq2 rfl (by omega) (some ⟨w.heap.size, 0, none⟩) 0 0 [] rfl (Own.made0 w _ 1 (Nat.le_refl _)) v.A v.n v.c (l.map strCells) rfl (Row.below hr (bAlloc (Below.refl _ _) _)) one_S cell_S (by simp only [maxLen]; omega) (by omega) (by simp) ?_; intro A3 c3 w3 ho3 hg3 hat3)
  have hB := bGrown (bAlloc (Below.refl w.heap.size w) _) hg3 (fun q hq => by simp [ob] at hq; omega)
  go_ret
  simp only [Nat.zero_add, List.nil_append] at ho3
  exact ⟨A3, c3, by simp, ho3, hB⟩
theorem copyChannel_k (v : CV) (c : Chan) (w : World) (hm : fewC c) (hr : RdC w v c) :
    Calls Tryd.prog 63 #[vChan v c.base c.expected] w fun e w' => ∃ v', e = .returned (vChan v' c.base c.expected) ∧ OwC w' v' c ∧ Fresh w.heap.size w' (fpC v') ∧ Below w.heap.size w w' := by
  obtain ⟨j0, hjj, hr0, hr1, hr2⟩ := info_parts info_Packet
  have m0 : v.q.n ≤ 1048576 := by have := hr.q.len.out; unfold fewC at hm; omega
  have m1 : v.i.n ≤ 1048576 := by have := hr.i.len.out; unfold fewC at hm; omega
  have m2 : v.n.n ≤ 1048576 := by have := hr.n.len.out; unfold fewC at hm; omega
  have m3 : v.a.n ≤ 1048576 := by have := hr.a.len.out; unfold fewC at hm; omega
  clear hm
  go_enter Tryd.func63, Tryd.ntmps63
  go_wp2_with fail
  refine Calls.mono (copyStrings_k v.q c.queue _ (by omega) ?_) ?_
  · exact hr.q.below (bAlloc (bAlloc (Below.refl _ _) _) _)
  rintro e w1 ⟨A0, c0, rfl, ho0, hb1⟩
  have H := bTrans (bAlloc (bAlloc (Below.refl w.heap.size w) _) _) hb1
  have H1 := H
  have hz1 : w.heap.size + 2 ≤ w1.heap.size := bsz2 hb1
  have kb10 := bBox hb1 (w.heap.size) (by first | (simp; done) | (simp; omega))
  have fb10 := bBoxF hb1 (w.heap.size) (by first | (simp; done) | (simp; omega))
  have kb11 := bBox hb1 (w.heap.size + 1) (by first | (simp; done) | (simp; omega))
  have fb11 := bBoxF hb1 (w.heap.size + 1) (by first | (simp; done) | (simp; omega))
  go_wp2_with fail
  refine Calls.mono (copyStrings_k v.i c.inbox _ (by omega) ?_) ?_
  · exact hr.i.below (by repeat (first | exact H | refine bSet ?_ (by simp) _))
  rintro e w2 ⟨A1, c1, rfl, ho1, hb2⟩
  have u1 : Upd [w.heap.size] w1 w2 := ((Upd.refl _ _).set_in (by simp) _).then_below hb2
  have H := bTrans (bSet H (by simp) _) hb2
  have hz2 : w1.heap.size ≤ w2.heap.size := by have := hb2.size; simpa using this
  have kb20 := bBox hb2 (w.heap.size) (by simp; omega)
  have fb20 := bBoxF hb2 (w.heap.size) (by simp; omega)
  have kb21 := bBox hb2 (w.heap.size + 1) (by simp; omega)
  have fb21 := bBoxF hb2 (w.heap.size + 1) (by simp; omega)
  have hq2 : w.heap.size < w2.heap.size := by omega
  have hq2' : w.heap.size + 1 < w2.heap.size := by omega
  have tok : True := trivial
  go_wp2_with (at_builtin; first
    | (have _t := tok; refine wpList_append rfl (.tmp 11) (.tmp 13) 24 rfl w2.heap.size 144 4 40 j0 _ Tryd.underlying24 hjj hr0 hr1 hr2 rfl (by omega) (some ⟨w2.heap.size, 0, none⟩) 0 0 [] rfl (Own.made' _ _ 4 (by simp) (by simp)) v.n.A v.n.n v.n.c (c.net.map Packet.cells) rfl (hr.n.below (by repeat (first | exact H | refine bAlloc ?_ _ | refine bSet ?_ (by simp) _))) one_K cell_K (by simp only [maxLen]; omega) (by omega) (by simp) ?_; clear tok _t; intro A2 c2 w3 ho2 hg3 hat3; have tok2 : True := trivial; have u2 : Upd [w.heap.size] w2 w3 := Upd.grown_new (((Upd.refl _ _).set_in (by simp) _).alloc_ _) hg3 (Nat.le_refl _); have hz3 : w2.heap.size + 1 ≤ w3.heap.size := (by have := hg3.size; simpa using this); have hq3 : w.heap.size < w3.heap.size := (by omega); have hq3' : w.heap.size + 1 < w3.heap.size := (by omega); have H3 := bUpd H u2 (fun k hk => by simp at hk; omega); have kb30 := gBox hg3 (w.heap.size) (by simp; omega) (fun k hk => by simp [ob] at hk; omega); have fb30 := gBoxF hg3 (w.heap.size) (by simp; omega) (fun k hk => by simp [ob] at hk; omega); have kb31 := gBox hg3 (w.heap.size + 1) (by simp; omega) (fun k hk => by simp [ob] at hk; omega); have fb31 := gBoxF hg3 (w.heap.size + 1) (by simp; omega) (fun k hk => by simp [ob] at hk; omega))
    | (have _t := tok2; refine wpList_append rfl (.tmp 16) (.tmp 18) 24 rfl w3.heap.size 144 4 40 j0 _ Tryd.underlying24 hjj hr0 hr1 hr2 rfl (by omega) (some ⟨w3.heap.size, 0, none⟩) 0 0 [] rfl (Own.made' _ _ 4 (by simp) (by simp)) v.a.A v.a.n v.a.c (c.acks.map Packet.cells) rfl (hr.a.below (by repeat (first | exact H3 | refine bAlloc ?_ _ | refine bSet ?_ (by simp) _))) one_K cell_K (by simp only [maxLen]; omega) (by omega) (by simp) ?_; clear tok2 _t; intro A3 c3 w4 ho3 hg4 hat4; have u3 : Upd [w.heap.size] w3 w4 := Upd.grown_new (((Upd.refl _ _).set_in (by simp) _).alloc_ _) hg4 (Nat.le_refl _); have hz4 : w3.heap.size + 1 ≤ w4.heap.size := (by have := hg4.size; simpa using this); have kb40 := gBox hg4 (w.heap.size) (by simp; omega) (fun k hk => by simp [ob] at hk; omega); have fb40 := gBoxF hg4 (w.heap.size) (by simp; omega) (fun k hk => by simp [ob] at hk; omega); have kb41 := gBox hg4 (w.heap.size + 1) (by simp; omega) (fun k hk => by simp [ob] at hk; omega); have fb41 := gBoxF hg4 (w.heap.size + 1) (by simp; omega) (fun k hk => by simp [ob] at hk; omega)))
  simp only [Nat.zero_add, List.nil_append] at ho2 ho3
  refine bodyPost_ret (v := vChan ⟨⟨A0, v.q.n, c0⟩, ⟨A1, v.i.n, c1⟩, ⟨A2, v.n.n, c2⟩, ⟨A3, v.a.n, c3⟩⟩ c.base c.expected) (by simp [*, results, Tryd.results63, go_sem]) rfl ⟨_, rfl, ?_⟩
  exact chan_end2 [w.heap.size, w.heap.size + 1] H1 ho0 (u1.mono (by simp)) ho1 (u2.mono (by simp)) ho2 (u3.mono (by simp)) ho3 (by repeat (first | with_reducible exact Upd.refl _ _ | (with_reducible refine Upd.set_in ?_ ?_ _); rotate_left; simp)) (by simp; omega) (by simp; omega) (by have := hb1.size; simpa using this) (by have := hb2.size; simpa using this) (by omega) (by simp) (Nat.le_refl _) (Nat.le_refl _)
/-! ### boxes: a struct's own block, as a slice of one element -/
theorem Own.box {w : World} {b t sz : Nat} {cs : List Value} (h : w.heap[b]? = some (.cells cs.toArray t (0, 0))) (hl : cs.length = sz) : Own w 0 t sz (some ⟨b, 0, none⟩) 1 1 [cs] :=
  ⟨⟨by simp [hl], .inr ⟨b, 1, cs.toArray, rfl, Nat.zero_le _, h, Nat.le_refl _, by simp [maxLen], by simp [hl], by rw [List.take_of_length_le (by simp [hl])]; simp⟩⟩, rfl, by simp [hl]⟩
theorem Own.bcell {w : World} {b t sz : Nat} {cs : List Value} (h : Own w 0 t sz (some ⟨b, 0, none⟩) 1 1 [cs]) : ∀ (j : Nat) (u : Value), cs[j]? = some u → w.cell? ⟨b, j, none⟩ = some u := by
  intro j u hu
  obtain ⟨g', off', hA, hc⟩ := h.row.2 0 cs rfl
  simp only [Option.some.injEq, Addr.mk.injEq, and_true] at hA
  obtain ⟨rfl, rfl⟩ := hA
  simpa using hc j u hu
theorem box1 (w : World) (o : Obj) : (w.alloc o).heap[w.heap.size]? = some o := heap_alloc_new w o
theorem box2 (w : World) (o o2 : Obj) : ((w.alloc o).alloc o2).heap[w.heap.size]? = some o := ((bAlloc (Below.refl _ _) o2).block w.heap.size (by simp)).trans (box1 w o)
theorem sz_Chan : (Tryd.prog.info? 26).map (·.size) = some 6 := by kernel_rfl
/-! ### TakeInbox -/
def nilSv : Sv := ⟨none, 0, 0⟩
def takeC (c : Chan) : Chan := { c with inbox := [] }
theorem fewC_take {c : Chan} (h : fewC c) : fewC (takeC c) := ⟨h.1, by simp [takeC], h.2.2.1, h.2.2.2⟩
/-- what TakeInbox hands back -/
def TakePost (w : World) (c : Chan) (e : Ending) (w' : World) : Prop :=
  ∃ (v' : CV) (vs : Sv), e = .returned (.tuple #[vChan v' (takeC c).base (takeC c).expected, .slice vs.A vs.n vs.c]) ∧ OwC w' v' (takeC c) ∧ Fresh w.heap.size w' (fpC v') ∧ OwS w' vs c.inbox ∧ Fresh w.heap.size w' (fpS vs) ∧ (∀ q ∈ fpC v', q ∉ fpS vs) ∧ Below w.heap.size w w'
theorem take_end {w w1 X : World} {v : CV} {c : Chan} (bx : List Nat) (H : Below w.heap.size w w1) (ho : OwC w1 v c) {B : Nat} (hf : Fresh B w1 (fpC v)) (hB : w.heap.size ≤ B) (u : Upd bx w1 X) (hbx : ∀ k ∈ bx, w.heap.size ≤ k ∧ (k < B ∨ w1.heap.size ≤ k)) :
    OwC X { v with i := nilSv } (takeC c) ∧ Fresh w.heap.size X (fpC { v with i := nilSv }) ∧ OwS X v.i c.inbox ∧ Fresh w.heap.size X (fpS v.i) ∧ (∀ q ∈ fpC { v with i := nilSv }, q ∉ fpS v.i) ∧ Below w.heap.size w X := by
  have ho2 := ho.upd u (fun k hk hm => by have := hbx k hm; have := hf.lo k hk; have := hf.hi k hk; omega)
  have hf2 := (hf.rebase hB).grow u.size
  have e0 : obl nilSv.A = [] := rfl
  obtain ⟨n, lo, hi⟩ := hf2
  simp only [fpC, List.nodup_append, List.mem_append] at n lo hi
  obtain ⟨n0, ⟨n1, ⟨n2, n3, d2⟩, d1⟩, d0⟩ := n
  refine ⟨⟨ho2.q, Own.nil_ _ _ _ _, ho2.n, ho2.a⟩, ⟨?_, ?_, ?_⟩, ho2.i, ⟨n1, fun g hg => lo g (.inr (.inl hg)), fun g hg => hi g (.inr (.inl hg))⟩, ?_, bUpd H u (fun k hk => (hbx k hk).1)⟩
  · simp only [fpC, e0, List.nil_append, List.nodup_append, List.mem_append]
    exact ⟨n0, ⟨n2, n3, d2⟩, fun a ha b hb => d0 a ha b (.inr hb)⟩
  · intro g hg
    simp only [fpC, e0, List.nil_append, List.mem_append] at hg
    rcases hg with hg | hg | hg
    · exact lo g (.inl hg)
    · exact lo g (.inr (.inr (.inl hg)))
    · exact lo g (.inr (.inr (.inr hg)))
  · intro g hg
    simp only [fpC, e0, List.nil_append, List.mem_append] at hg
    rcases hg with hg | hg | hg
    · exact hi g (.inl hg)
    · exact hi g (.inr (.inr (.inl hg)))
    · exact hi g (.inr (.inr (.inr hg)))
  · intro g hg hm
    simp only [fpC, e0, List.nil_append, List.mem_append] at hg
    simp only [fpS] at hm
    rcases hg with hg | hg | hg
    · exact d0 g hg g (.inl hm) rfl
    · exact d1 g hm g (.inl hg) rfl
    · exact d1 g hm g (.inr hg) rfl
theorem impl_TakeInbox_k (v : CV) (c : Chan) (w : World) (hm : bulkC c ≤ 1048576) (hok : okC c) (hr : RdC w v c) :
    Calls Tryd.prog 16 #[vChan v c.base c.expected] w fun e w' => TakePost w c e w' := by
  have hfw := fewC_of hm
  clear hm hok
  go_enter Tryd.func16, Tryd.ntmps16
  go_wp2_with fail
  refine Calls.mono (copyChannel_k v c _ hfw ?_) ?_
  · exact hr.below (bAlloc (bAlloc (Below.refl _ _) _) _)
  rintro e w1 ⟨v1, rfl, ho, hf, hb1⟩
  have H := bTrans (bAlloc (bAlloc (Below.refl w.heap.size w) _) _) hb1
  have hz1 : w.heap.size + 2 ≤ w1.heap.size := bsz2 hb1
  have q0 : w.heap.size < w1.heap.size := by omega
  have q1 : w.heap.size + 1 < w1.heap.size := by omega
  have kb10 := bBox hb1 (w.heap.size) (by first | (simp; done) | (simp; omega))
  have fb10 := bBoxF hb1 (w.heap.size) (by first | (simp; done) | (simp; omega))
  have kb11 := bBox hb1 (w.heap.size + 1) (by first | (simp; done) | (simp; omega))
  have fb11 := bBoxF hb1 (w.heap.size + 1) (by first | (simp; done) | (simp; omega))
  have hf' : Fresh (w.heap.size + 2) w1 (fpC v1) := hf.rebase (by simp)
  have hbx := Own.box (sz := 6) ((hb1.block w.heap.size (by simp; omega)).trans (box2 w _ _)) rfl
  have tok : True := trivial
  go_wp2_with (have _t := tok; refine wpList_store_elem rfl 26 (.tmp 1) (.tmp 6) rfl 0 26 6 1 1 w.heap.size 0 0 rfl _ rfl _ (cChan v1 c.base c.expected) rfl rfl rfl (one_of rfl) sz_Chan hbx (by omega) ?_; clear tok _t hbx; intro w2 hbx hg2; have u2 := upd1 hg2; have hz2 := hg2.size; have q2 : w.heap.size + 1 < w2.heap.size := (by omega); have c0 := hbx.bcell 0 _ rfl; have c1 := hbx.bcell 1 _ rfl; have c2 := hbx.bcell 2 _ rfl; have c3 := hbx.bcell 3 _ rfl; have c4 := hbx.bcell 4 _ rfl; have c5 := hbx.bcell 5 _ rfl; have fz := hbx.frozen rfl; have kb20 := uBox u2 (w.heap.size + 1) (by omega) (by simp); have fb20 := uBoxF u2 (w.heap.size + 1) (by omega) (by simp))
  refine bodyPost_ret (v := .tuple #[vChan { v1 with i := nilSv } (takeC c).base (takeC c).expected, .slice v1.i.A v1.i.n v1.i.c]) (by simp [*, takeC, nilSv, results, Tryd.results16, go_sem]) rfl ⟨_, _, rfl, ?_⟩
  exact take_end [w.heap.size, w.heap.size + 1] H ho hf' (by omega) ((u2.mono (by simp)).trans (by repeat (first | with_reducible exact Upd.refl _ _ | with_reducible refine Upd.alloc_ ?_ _ | ((with_reducible refine Upd.set_in ?_ ?_ _); rotate_left; simp)))) (by simp)
/-! ### Offer -/
def addQ (c : Chan) (s : ByteArray) : Chan := { c with queue := c.queue ++ [s] }
def offer (c : Chan) (s : ByteArray) : Chan × Bool := if isChan c && isChan (addQ c s) then (addQ c s, true) else (c, false)
theorem fewC_offer {c : Chan} {s : ByteArray} (h : fewC c) : fewC (offer c s).1 := by
  unfold offer
  split
  · rename_i hc
    simp only [Bool.and_eq_true] at hc
    have h2 := hc.2
    unfold isChan addQ at h2
    simp only [Bool.and_eq_true, decide_eq_true_eq, List.length_append] at h2
    have := h2.2.1
    refine ⟨?_, h.2⟩
    simp only [addQ, List.length_append]
    simp at this ⊢
    omega
  · exact h
theorem offer_no1 {c : Chan} {s : ByteArray} (h : isChan c = false) : offer c s = (c, false) := by simp [offer, h]
theorem offer_no2 {c : Chan} {s : ByteArray} (h : isChan (addQ c s) = false) : offer c s = (c, false) := by simp [offer, h]
theorem offer_yes {c : Chan} {s : ByteArray} (h : isChan c = true) (h2 : isChan (addQ c s) = true) : offer c s = (addQ c s, true) := by simp [offer, h, h2]
/-- a channel whose queue was appended to -/
theorem addq_own {w1 w2 : World} {v : CV} {c : Chan} {s : ByteArray} {A : Option Addr} {c' : Nat} (ho : OwC w1 v c) (hf : (fpC v).Nodup) (ho2 : Own w2 0 9 1 A (v.q.n + 1) c' (c.queue.map strCells ++ [[.string s]])) (u : Upd (obl v.q.A) w1 w2) : OwC w2 { v with q := ⟨A, v.q.n + 1, c'⟩ } (addQ c s) := by
  simp only [fpC, List.nodup_append, List.mem_append] at hf
  obtain ⟨_, ⟨_, ⟨_, _, _⟩, _⟩, d0⟩ := hf
  exact ⟨by simpa [addQ, strCells] using ho2, ho.i.upd u (fun k hk hm => d0 k hm k (.inl hk) rfl), ho.n.upd u (fun k hk hm => d0 k hm k (.inr (.inl hk)) rfl), ho.a.upd u (fun k hk hm => d0 k hm k (.inr (.inr hk)) rfl)⟩
theorem addq_fresh {B g n c' : Nat} {w1 w2 : World} {v : CV} {A : Option Addr} (hf : Fresh B w1 (fpC v)) (hat : ob A = ob v.q.A ∨ ob A = some g) (hg : w1.heap.size ≤ g) (hgl : ob A = some g → g < w2.heap.size) (hB : B ≤ g) (hs : w1.heap.size ≤ w2.heap.size) : Fresh B w2 (fpC { v with q := ⟨A, n, c'⟩ }) := by
  rcases hat with h | h
  · have e : fpC { v with q := ⟨A, n, c'⟩ } = fpC v := by simp only [fpC, obl, h]
    rw [e]; exact hf.grow hs
  · have e : fpC { v with q := ⟨A, n, c'⟩ } = [g] ++ (obl v.i.A ++ (obl v.n.A ++ obl v.a.A)) := by simp only [fpC, obl, h]; rfl
    rw [e]
    have hf2 := (Fresh.right (fs := obl v.q.A) hf)
    have hgl := hgl h
    refine ⟨?_, ?_, ?_⟩
    · rw [List.singleton_append, List.nodup_cons]
      exact ⟨fun hm => by have := hf2.hi g hm; omega, hf2.nodup⟩
    · intro k hk
      rcases List.mem_append.1 hk with h | h
      · simp at h; omega
      · exact hf2.lo k h
    · intro k hk
      rcases List.mem_append.1 hk with h | h
      · simp at h; omega
      · have := hf2.hi k h; omega
theorem addq_not {b n c' : Nat} {B : Nat} {w1 : World} {v : CV} {A : Option Addr} (hf : Fresh B w1 (fpC v)) (hat : ob A = ob v.q.A ∨ ob A = some (w1.heap.size + 1 + 1)) (hb : b = w1.heap.size ∨ b < B) (hB : B ≤ w1.heap.size) : ∀ q ∈ fpC { v with q := ⟨A, n, c'⟩ }, q ∉ [b] := by
  intro q hq hm
  simp only [List.mem_singleton] at hm
  subst hm
  have h1 : q ∈ obl A ∨ q ∈ fpC v := by
    simp only [fpC, List.mem_append] at hq ⊢
    rcases hq with h | h
    · exact .inl h
    · exact .inr (.inr h)
  have h2 : q ∈ fpC v ∨ q = w1.heap.size + 1 + 1 := by
    rcases h1 with h1 | h1
    · have h3 := mem_obl.1 h1
      rcases hat with h | h
      · rw [h] at h3; exact .inl (by simp [fpC, mem_obl.2 h3])
      · rw [h] at h3; exact .inr (Option.some.inj h3).symm
    · exact .inl h1
  rcases h2 with h2 | h2
  · have := hf.lo q h2; have := hf.hi q h2; omega
  · omega
theorem off_end {w w5 X : World} {v : CV} {c : Chan} {B : Nat} (H : Below w.heap.size w w5) (ho : OwC w5 v c) (hf : Fresh B w5 (fpC v)) (hB : w.heap.size + 2 ≤ B) (u : Upd [w.heap.size + 1] w5 X) : OwC X v c ∧ Fresh w.heap.size X (fpC v) ∧ Below w.heap.size w X :=
  ⟨ho.upd u (fun k hk hm => by have := hf.lo k hk; simp at hm; omega), (hf.rebase (by omega)).grow u.size, bUpd H u (fun k hk => by simp at hk; omega)⟩
theorem impl_Offer_k (v : CV) (c : Chan) (s : ByteArray) (w : World) (hm : bulkC c ≤ 1048576) (hok : okC c) (hr : RdC w v c) (hs : s.size ≤ 1048576) :
    Calls Tryd.prog 14 #[vChan v c.base c.expected, .string s] w fun e w' => ∃ v', e = .returned (.tuple #[vChan v' (offer c s).1.base (offer c s).1.expected, .bool (offer c s).2]) ∧ OwC w' v' (offer c s).1 ∧ Fresh w.heap.size w' (fpC v') ∧ Below w.heap.size w w' := by
  have hfw := fewC_of hm
  have hwb := hok.2.2.2.2.1
  have hqn : v.q.n ≤ 1048576 := by have := hr.q.len.out; unfold fewC at hfw; omega
  obtain ⟨i0, hii, hq0, hq1, hq2⟩ := info_parts info_String
  generalize hb1 : isChan c = b1
  generalize hb2 : isChan (addQ c s) = b2
  have HB1 := Lib.hid hb1
  have HB2 := Lib.hid hb2
  have HS := Lib.hid hs
  clear hm hok hb1 hb2 hs
  go_enter Tryd.func14, Tryd.ntmps14
  go_wp2_with fail
  refine Calls.mono (copyChannel_k v c _ hfw ?_) ?_
  · exact hr.below (bAlloc (bAlloc (Below.refl _ _) _) _)
  rintro e w1 ⟨v1, rfl, ho, hf, hb1⟩
  have H := bTrans (bAlloc (bAlloc (Below.refl w.heap.size w) _) _) hb1
  have hz1 : w.heap.size + 2 ≤ w1.heap.size := bsz2 hb1
  have q0 : w.heap.size < w1.heap.size := by omega
  have q1 : w.heap.size + 1 < w1.heap.size := by omega
  have kb1_0 := bBox hb1 (w.heap.size) (by first | (simp; done) | (simp; omega))
  have kb1_1 := bBox hb1 (w.heap.size + 1) (by first | (simp; done) | (simp; omega))
  have fb1_1 := bBoxF hb1 (w.heap.size + 1) (by first | (simp; done) | (simp; omega))
  have hf' : Fresh (w.heap.size + 2) w1 (fpC v1) := hf.rebase (by simp)
  have hq1n : v1.q.n ≤ 1048576 := by have h1 := ho.rd.q.len.out; unfold fewC at hfw; omega
  have hqb : Hid (∀ k, ob v1.q.A = some k → w.heap.size + 2 ≤ k ∧ k < w1.heap.size) := fun k hk => by
    have h1 : k ∈ fpC v1 := by simp [fpC, mem_obl.2 hk]
    exact ⟨hf'.lo k h1, hf'.hi k h1⟩
  have tok : True := trivial
  go_wp2_with (at_builtin; have _t := tok; refine wpList_append rfl (.tmp 10) (.tmp 12) 23 rfl 0 9 1 16 i0 _ Tryd.underlying23 hii hq0 hq1 hq2 rfl (by omega) v1.q.A v1.q.n v1.q.c (c.queue.map strCells) rfl ((ho.q.alloc_ _).alloc_ _) _ 1 1 [[.string s]] rfl (Row.new1' _ _ [.string s] 1 _ (by simp)) (by simp) (by simp [Value.oneCell']) (by simp only [maxLen]; omega) (by omega) (Nat.zero_le _) ?_; clear tok _t; intro A2 c2 w2 ho2 hg2 hat2; have hz2 : w1.heap.size + 2 ≤ w2.heap.size := (by have := hg2.size; simp at this; omega); have kb2_0 := gBox hg2 (w.heap.size) (by simp; omega) (fun k hk => by have := hqb.out k hk; omega); have kb2_1 := gBox hg2 (w.heap.size + 1) (by simp; omega) (fun k hk => by have := hqb.out k hk; omega); have fb2_1 := gBoxF hg2 (w.heap.size + 1) (by simp; omega) (fun k hk => by have := hqb.out k hk; omega); have kb2_2 := gBox hg2 (w1.heap.size) (by simp; omega) (fun k hk => by have := hqb.out k hk; omega); have fb2_2 := gBoxF hg2 (w1.heap.size) (by simp; omega) (fun k hk => by have := hqb.out k hk; omega); have y0 : w.heap.size < w2.heap.size := (by omega); have y1 : w.heap.size + 1 < w2.heap.size := (by omega); have y2 : w1.heap.size < w2.heap.size := (by omega); have y3 : w1.heap.size ≠ w.heap.size := (by omega); have y4 : w1.heap.size ≠ w.heap.size + 1 := (by omega))
  have uA : Upd (obl v1.q.A) w1 w2 := (((Upd.refl _ _).alloc_ _).alloc_ _).trans (Upd.of_row hg2)
  have hat3 : ob A2 = ob v1.q.A ∨ ob A2 = some (w1.heap.size + 1 + 1) := by simpa using hat2
  have hX := addq_own ho hf.nodup ho2 uA
  have hF : Fresh (w.heap.size + 2) w2 (fpC { v1 with q := ⟨A2, v1.q.n + 1, c2⟩ }) := addq_fresh hf' hat3 (by omega) (fun h => (ho2.lt _ h).2) (by omega) (by omega)
  have H := bUpd H uA (fun k hk => by have := hqb.out k (mem_obl.1 hk); omega)
  clear hat2
  have hN := addq_not (b := w1.heap.size) (n := v1.q.n + 1) (c' := c2) hf' hat3 (.inl rfl) (by omega)
  have hN1 := addq_not (b := w.heap.size + 1) (n := v1.q.n + 1) (c' := c2) hf' hat3 (.inr (by omega)) (by omega)
  have uS : Upd [w1.heap.size] w2 (w2.setCell ⟨w1.heap.size, 0, none⟩ (.slice A2 (v1.q.n + 1) c2)) := (Upd.refl _ _).set_in (by simp) _
  have hX := hX.upd uS hN
  have H := bUpd H uS (fun k hk => by simp at hk; omega)
  refine Calls.mono (impl_IsChannel_c v c _ hwb ?_) ?_
  · exact hr.below H
  rintro e w3 ⟨he, hb3⟩
  rw [HB1.out] at he
  subst he
  have hX := hX.below hb3
  have hF := hF.grow (w' := w3) (by have := hb3.size; simpa using this)
  have H := bTrans H hb3
  have hz3 : w2.heap.size ≤ w3.heap.size := by have := hb3.size; simpa using this
  have kb3_0 := bBox hb3 (w.heap.size) (by simp; omega)
  have kb3_1 := bBox hb3 (w.heap.size + 1) (by simp; omega)
  have fb3_1 := bBoxF hb3 (w.heap.size + 1) (by simp; omega)
  have kb3_2 := bBox hb3 (w1.heap.size) (by simp; omega)
  have fb3_2 := bBoxF hb3 (w1.heap.size) (by simp; omega)
  cases b1
  · go_wp2_with fail
    refine Calls.mono (copyChannel_k v c _ hfw ?_) ?_
    · exact hr.below H
    rintro e w5 ⟨v5, rfl, ho5, hf5, hb5⟩
    have kb5_1 := bBox hb5 (w.heap.size + 1) (by omega)
    have fb5_1 := bBoxF hb5 (w.heap.size + 1) (by omega)
    have hB5 : w.heap.size + 2 ≤ w3.heap.size := by omega
    have H := bTrans H hb5
    go_wp2_with fail
    refine bodyPost_ret (v := .tuple #[vChan v5 c.base c.expected, .bool false]) (by simp [*, results, Tryd.results14, go_sem]) rfl ?_
    rw [offer_no1 HB1.out]
    exact ⟨v5, rfl, off_end H ho5 hf5 hB5 (by repeat (first | with_reducible exact Upd.refl _ _ | ((with_reducible refine Upd.set_in ?_ ?_ _); rotate_left; simp)))⟩
  go_wp2_with fail
  refine Calls.mono (impl_IsChannel_c { v1 with q := ⟨A2, v1.q.n + 1, c2⟩ } (addQ c s) _ hwb ?_) ?_
  · exact hX.rd
  rintro e w4 ⟨he, hb4⟩
  rw [HB2.out] at he
  subst he
  have hX := hX.below hb4
  have hF := hF.grow (w' := w4) hb4.size
  have H := bTrans H hb4
  have hz4 := hb4.size
  have kb4_0 := bBox hb4 (w.heap.size) (by omega)
  have kb4_1 := bBox hb4 (w.heap.size + 1) (by omega)
  have fb4_1 := bBoxF hb4 (w.heap.size + 1) (by omega)
  have kb4_2 := bBox hb4 (w1.heap.size) (by omega)
  cases b2
  · go_wp2_with fail
    refine Calls.mono (copyChannel_k v c _ hfw ?_) ?_
    · exact hr.below H
    rintro e w5 ⟨v5, rfl, ho5, hf5, hb5⟩
    have kb5_1 := bBox hb5 (w.heap.size + 1) (by omega)
    have fb5_1 := bBoxF hb5 (w.heap.size + 1) (by omega)
    have hB5 : w.heap.size + 2 ≤ w4.heap.size := by omega
    have H := bTrans H hb5
    go_wp2_with fail
    refine bodyPost_ret (v := .tuple #[vChan v5 c.base c.expected, .bool false]) (by simp [*, results, Tryd.results14, go_sem]) rfl ?_
    rw [offer_no2 HB2.out]
    exact ⟨v5, rfl, off_end H ho5 hf5 hB5 (by repeat (first | with_reducible exact Upd.refl _ _ | ((with_reducible refine Upd.set_in ?_ ?_ _); rotate_left; simp)))⟩
  go_wp2_with fail
  refine bodyPost_ret (v := .tuple #[vChan { v1 with q := ⟨A2, v1.q.n + 1, c2⟩ } c.base c.expected, .bool true]) (by simp [*, results, Tryd.results14, go_sem]) rfl ?_
  rw [offer_yes HB1.out HB2.out]
  exact ⟨_, rfl, off_end H hX hF (Nat.le_refl _) (by repeat (first | with_reducible exact Upd.refl _ _ | ((with_reducible refine Upd.set_in ?_ ?_ _); rotate_left; simp)))⟩
end Go.Proofs.YtgpmmmfnbphgdaaDoor
