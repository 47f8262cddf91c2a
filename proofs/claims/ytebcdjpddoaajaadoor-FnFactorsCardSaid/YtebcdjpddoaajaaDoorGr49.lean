/- Texts of this proof, one behind the other: Draw2a, Take, Rem, Fct. -/
import Derived.Outline
import Derived.Test.YtebcdjpddoaajaaDoorGr7
import Derived.Test.YtebcdjpddoaajaaDoorGr8
import Derived.Test.YtebcdjpddoaajaaDoorGr11
import Derived.Test.YtebcdjpddoaajaaDoorGr12
import Derived.Test.YtebcdjpddoaajaaDoorGr14
import Derived.Test.YtebcdjpddoaajaaDoorGr16
import Derived.Test.YtebcdjpddoaajaaDoorGr17
import Derived.Test.YtebcdjpddoaajaaDoorGr35
import Derived.Test.YtebcdjpddoaajaaDoorGr47
import Derived.Test.YtebcdjpddoaajaaDoorGr52
/- A number is drawn out of a row. -/
namespace Go.Proofs.YtebcdjpddoaajaaDoor
open Go.RowKit
set_option linter.unusedVariables false
set_option linter.unusedSimpArgs false
set_option maxHeartbeats 1000000
set_option maxRecDepth 100000
theorem Row.upd_ {w w' : World} {A : Option Addr} {n sz : Nat} {css : List (List Value)} {fs : List Nat} (h : Row w A n sz css) (hu : Upd fs w w') (hd : ∀ g off, A = some ⟨g, off, none⟩ → g ∉ fs) : Row w' A n sz css :=
  ⟨h.1, fun i cs hi => by
    obtain ⟨g, off, rfl, hc⟩ := h.2 i cs hi
    exact ⟨g, off, rfl, fun j v hv => (uBox hu g (cell_lt (hc j v hv)) (hd g off rfl) _).trans (hc j v hv)⟩⟩
theorem l01Pick_c {W w : World} {b : Nat} {A : Option Addr} {n c : Nat} (hy : Bytes W A n) (hn : n ≤ 1048576) (h : Cur W w b A n c) (g m cp : Nat) (l : List Int) (hr : RowI w (some ⟨g, 0, none⟩) m l) (hg : g ≠ b) (h0 : 0 < m) (h1 : m ≤ 256) :
    Calls Tryd.prog 89 #[.pointer (some ⟨b, 0, none⟩), .slice (some ⟨g, 0, none⟩) m cp] w fun e w' => ∃ x, e = rInt x ∧ x ∈ l ∧ Cur W w' b A n c ∧ Upd [b] w w' := by
  have HC := Lib.hid h
  have hy' := Lib.hid hy
  have hr' := Lib.hid hr
  clear h hy hr
  have hmi0 : (0 : Int) < (m : Int) := by omega
  have hmi1 : (m : Int) ≤ 256 := by omega
  go_enter Tryd.func89, Tryd.ntmps89
  go_wp2_with fail
  refine Calls.mono (l01Below_c hy'.out hn HC.out (m : Int) (by omega) (by omega)) ?_
  rintro e w1 ⟨x, rfl, hx0, hx1, hc1, hu1⟩
  obtain ⟨k, rfl⟩ := Int.eq_ofNat_of_zero_le hx0
  have hk : k < m := by omega
  obtain ⟨v, g', off', hv, hA, hcell⟩ := RowI.at_ (hr'.out.upd_ hu1 (fun g2 off2 e => by simp only [Option.some.injEq, Addr.mk.injEq] at e; simp; omega)) hk
  simp only [Option.some.injEq, Addr.mk.injEq, and_true] at hA
  obtain ⟨rfl, rfl⟩ := hA
  rw [Nat.zero_add] at hcell
  go_wp2
  go_ret
  exact ⟨v, rfl, List.mem_of_getElem? hv.out, hc1, hu1⟩
end Go.Proofs.YtebcdjpddoaajaaDoor

/- copyStrings, copyChannel, TakeInbox, Offer: what the two of each answer. -/
namespace Go.Proofs.YtebcdjpddoaajaaDoor
open Go.RowKit
set_option linter.unusedVariables false
set_option linter.unusedSimpArgs false
set_option maxHeartbeats 400000
set_option maxRecDepth 100000
theorem Own.made' (w : World) {B g : Nat} (e sz : Nat) (hB : B ≤ w.heap.size) (hg : g = w.heap.size) : Own (w.alloc (.cells #[] e)) B e sz (some ⟨g, 0, none⟩) 0 0 [] := by subst hg; exact Own.made0 w e sz hB
theorem one_S {l : List ByteArray} : ∀ cs ∈ l.map strCells, cs.length = 1 := fun cs h => by obtain ⟨f, _, rfl⟩ := List.mem_map.1 h; rfl
theorem cell_S {l : List ByteArray} : ∀ cs ∈ l.map strCells, ∀ u ∈ cs, u.oneCell' = true := fun cs h => by obtain ⟨f, _, rfl⟩ := List.mem_map.1 h; exact one_of rfl
theorem one_K {l : List Packet} : ∀ cs ∈ l.map Packet.cells, cs.length = 4 := fun cs h => by obtain ⟨f, _, rfl⟩ := List.mem_map.1 h; rfl
theorem cell_K {l : List Packet} : ∀ cs ∈ l.map Packet.cells, ∀ u ∈ cs, u.oneCell' = true := fun cs h => by obtain ⟨f, _, rfl⟩ := List.mem_map.1 h; exact one_of rfl
theorem gBoxF {w w' : World} {row : Option Nat} (hg : w.grownBy w' row) (b : Nat) (hb : b < w.heap.size) (hne : ∀ k, row = some k → k ≠ b) : ∀ o, w'.frozen? ⟨b, o, none⟩ = w.frozen? ⟨b, o, none⟩ :=
  fun o => World.frozen?_of_block (a := ⟨b, o, none⟩) (hg.block b hb (fun e => hne b e.symm rfl))
theorem Upd.grown_new {fs : List Nat} {a b c : World} {g : Nat} (h : Upd fs a b) (k : b.grownBy c (ob (some ⟨g, 0, none⟩))) (hg : a.heap.size ≤ g) : Upd fs a c :=
  ⟨k.os.trans h.os, k.tape.trans h.tape, k.output.trans h.output, Nat.le_trans h.size k.size, fun i hi hn => (k.block i (Nat.lt_of_lt_of_le hi h.size) (by simp [ob]; omega)).trans (h.block i hi hn)⟩
theorem upd1 {a b : World} {g : Nat} (h : a.grownBy b (some g)) : Upd [g] a b := Upd.of_grown h fun k hk => by simp only [Option.some.injEq] at hk; subst hk; simp
/-! ### boxes: a struct's own block, as a slice of one element -/
theorem Own.box {w : World} {b t sz : Nat} {cs : List Value} (h : w.heap[b]? = some (.cells cs.toArray t (0, 0))) (hl : cs.length = sz) : Own w 0 t sz (some ⟨b, 0, none⟩) 1 1 [cs] :=
  ⟨⟨by simp [hl], .inr ⟨b, 1, cs.toArray, rfl, Nat.zero_le _, h, Nat.le_refl _, by simp [maxLen], by simp [hl], by rw [List.take_of_length_le (by simp [hl])]; simp⟩⟩, rfl, by simp [hl]⟩
theorem Own.bcell {w : World} {b t sz : Nat} {cs : List Value} (h : Own w 0 t sz (some ⟨b, 0, none⟩) 1 1 [cs]) : ∀ (j : Nat) (u : Value), cs[j]? = some u → w.cell? ⟨b, j, none⟩ = some u := by
  intro j u hu
  obtain ⟨g', off', hA, hc⟩ := h.row.2 0 cs rfl
  simp only [Option.some.injEq, Addr.mk.injEq, and_true] at hA
  obtain ⟨rfl, rfl⟩ := hA
  simpa using hc j u hu
theorem box1 (w : World) (o : Obj) : (w.alloc o).heap[w.heap.size]? = some o := heap_alloc_new w o
theorem box2 (w : World) (o o2 : Obj) : ((w.alloc o).alloc o2).heap[w.heap.size]? = some o := ((bAlloc (Below.refl _ _) o2).block w.heap.size (by simp)).trans (box1 w o)
end Go.Proofs.YtebcdjpddoaajaaDoor

/- RemoveFactor of the program. -/
namespace Go.Proofs.YtebcdjpddoaajaaDoor
open Go.RowKit
set_option linter.unusedVariables false
set_option linter.unusedSimpArgs false
set_option maxHeartbeats 4000000
set_option maxRecDepth 100000

theorem asc_gt : ∀ (l : List Factor) (p : Int), ascL l (some p) = true → ∀ g ∈ l, p < g.id
  | [], p, _, g, hg => by simp at hg
  | a :: l, p, h, g, hg => by
    simp only [ascL, Bool.and_eq_true, decide_eq_true_eq] at h
    rcases List.mem_cons.1 hg with rfl | hg
    · exact h.2.1
    · have := asc_gt l a.id h.2.2 g hg; omega
theorem asc_tail {a : Factor} {l : List Factor} {p : Option Int} (h : ascL (a :: l) p = true) : ascL l (some a.id) = true := by
  simp only [ascL, Bool.and_eq_true] at h
  exact h.2.2
theorem rem_take : ∀ (l : List Factor) (p : Option Int) (k : Nat) (f : Factor), ascL l p = true → l[k]? = some f → l.filter (fun g => g.id != f.id) = l.take k ++ l.drop (k + 1)
  | [], p, k, f, _, hf => by simp at hf
  | a :: l, p, 0, f, h, hf => by
    simp only [List.getElem?_cons_zero, Option.some.injEq] at hf
    subst hf
    have hg := asc_gt l a.id (asc_tail h)
    rw [List.filter_cons_of_neg (by simp)]
    simp only [List.take_zero, List.nil_append, List.drop_succ_cons, List.drop_zero]
    rw [List.filter_eq_self]
    intro g hm
    have := hg g hm
    simp; omega
  | a :: l, p, k + 1, f, h, hf => by
    simp only [List.getElem?_cons_succ] at hf
    have hg := asc_gt l a.id (asc_tail h) f (List.mem_of_getElem? hf)
    have ih := rem_take l _ k f (asc_tail h) hf
    rw [List.filter_cons_of_pos (by simp; omega), ih]
    rfl
theorem fid_at : ∀ (l : List Factor) (id j : Int), 0 ≤ j → findId l id j = -1 ∨ ∃ (k : Nat) (f : Factor), findId l id j = j + (k : Int) ∧ l[k]? = some f ∧ f.id = id
  | [], id, j, _ => .inl rfl
  | a :: l, id, j, hj => by
    rw [findId]
    by_cases h : a.id = id
    · rw [if_pos (by simpa using h)]
      exact .inr ⟨0, a, by simp, rfl, h⟩
    · rw [if_neg (by simpa using h)]
      rcases fid_at l id (j + 1) (by omega) with h1 | ⟨k, f, h1, h2, h3⟩
      · exact .inl h1
      · exact .inr ⟨k + 1, f, by rw [h1]; push_cast; omega, by simpa using h2, h3⟩
theorem remF_no {l : List Factor} {id : Int} (h : (isFL l && hasId l id) = false) : removeF l id = (l, false) := by unfold removeF; rw [h]; rfl
theorem remF_yes {l : List Factor} {k : Nat} {f : Factor} (h : isFL l = true) (hk : l[k]? = some f) : removeF l f.id = (l.take k ++ l.drop (k + 1), true) := by
  have hh : hasId l f.id = true := by
    unfold hasId; rw [List.any_eq_true]; exact ⟨f, List.mem_of_getElem? hk, by simp⟩
  have ha : ascL l none = true := by
    unfold isFL at h; simp only [Bool.and_eq_true] at h; exact h.2.1
  unfold removeF
  rw [h, hh, if_pos (by rfl), rem_take l none k f ha hk]
theorem impl_RemoveFactor_k (v : Sv) (l : List Factor) (id : Int) (w : World) (hm : fewF l) (hs : smallFs l) (hsl : SlOk v) (hr : RdF w v l) :
    Calls Tryd.prog 15 #[.slice v.A v.n v.c, .int .i64 id] w fun e w' => ∃ v' : Sv, e = .returned (.tuple #[.slice v'.A v'.n v'.c, .bool (removeF l id).2]) ∧ FPost w v' (removeF l id).1 w' := by
  obtain ⟨i0, hii, hq0, hq1, hq2⟩ := info_parts info_Factor
  have hl := hr.len
  have hm1 : v.n ≤ 1048576 := by have := hl.out; unfold fewF at hm; omega
  obtain ⟨A, n, c⟩ := v
  dsimp only [SlOk] at hsl hm1 hl ⊢
  obtain ⟨b, hb⟩ : ∃ b, b = isFL l := ⟨_, rfl⟩
  have HB := Lib.hid hb
  clear hb
  go_enter Tryd.func15, Tryd.ntmps15
  go_wp2_with fail
  refine Calls.mono (findFactor_c A n c l id _ hm1 hr) ?_
  rintro e w1 ⟨rfl, hk1⟩
  go_wp2_with fail
  refine Calls.mono (impl_IsFactorList_c A n c l _ hm1 (Row.below hr hk1) hs) ?_
  rintro e w2 ⟨rfl, hk2⟩
  rw [← HB.out]
  have H2 := bTrans hk1 hk2
  have hneg := findId_neg l id 0 (by omega)
  rcases fid_at l id 0 (by omega) with h1 | ⟨k, f, h1, h2, h3⟩
  · have E := Lib.hid (remF_no (l := l) (id := id) (by rw [h1] at hneg; simp at hneg; rw [hneg, Bool.and_false]))
    rw [h1]
    clear h1 hneg
    cases b
    all_goals
      go_wp2_with fail
      refine Calls.mono (copyFactors_k ⟨A, n, c⟩ l _ hm (Row.below hr H2)) ?_
      rintro e w3 ⟨v3, rfl, ho3, hf3, hk3⟩
      have hs2 := H2.size
      go_wp2_with fail
      refine bodyPost_ret (v := .tuple #[.slice v3.A v3.n v3.c, .bool false]) (by simp [*, results, Tryd.results15, go_sem]) rfl ⟨v3, by rw [E.out], ?_⟩
      rw [E.out]; exact ⟨ho3, hf3.rebase hs2, bTrans H2 hk3⟩
  · subst h3
    simp only [Int.zero_add] at h1
    rw [h1]
    clear h1 hneg
    cases b with
    | false =>
      have E := Lib.hid (remF_no (l := l) (id := f.id) (by rw [← HB.out]; rfl))
      go_wp2_with fail
      refine Calls.mono (copyFactors_k ⟨A, n, c⟩ l _ hm (Row.below hr H2)) ?_
      rintro e w3 ⟨v3, rfl, ho3, hf3, hk3⟩
      have hs2 := H2.size
      go_wp2_with fail
      refine bodyPost_ret (v := .tuple #[.slice v3.A v3.n v3.c, .bool false]) (by simp [*, results, Tryd.results15, go_sem]) rfl ⟨v3, by rw [E.out], ?_⟩
      rw [E.out]; exact ⟨ho3, hf3.rebase hs2, bTrans H2 hk3⟩
    | true =>
      have E := Lib.hid (remF_yes HB.out.symm h2)
      have hkn : k < n := by have := (List.getElem?_eq_some_iff.1 h2).1; have := hl.out; omega
      clear h2
      rcases hsl with ⟨rfl, h00, hc0⟩ | ⟨g, off, rfl, hnc1, hnc2⟩
      · omega
      · simp only [maxLen] at hnc2
        have hki0 : (0 : Int) ≤ (k : Int) := by omega
        have hki1 : (k : Int) ≤ (c : Int) := by omega
        have hki2 : (k : Int) + 1 ≤ (n : Int) := by omega
        have hki3 : (n : Int) ≤ (c : Int) := by omega
        have hw1 : IntKind.i64.wrap ((k : Int) + 1) = (k : Int) + 1 := by rw [IntKind.wrap_i64]; omega
        have hki4 : (0 : Int) ≤ (k : Int) + 1 := by omega
        by_cases hkc : k + 1 = c
        · obtain rfl : n = k + 1 := by omega
          subst hkc
          have hkk : (k : Int) + 1 ≤ (k : Int) + 1 := by omega
          have hkk2 : ¬ (k : Int) + 1 < (k : Int) + 1 := by omega
          have hkk3 : (k : Int) ≤ (k : Int) + 1 := by omega
          clear hki1 hki2 hki3
          have hdn : l.drop (k + 1) = [] := List.drop_of_length_le (by have := hl.out; omega)
          have hrd : ∀ w', Below w.heap.size w w' → Row w' (some ⟨g, off, none⟩) 0 8 ((l.drop (k + 1)).map Factor.cells) := fun w' _ => by rw [hdn]; exact Row.nil_ _ _ _
          have HRD := Lib.hid hrd
          clear hrd
          have hfk : fewF (l.take k) := by unfold fewF at *; rw [List.length_take]; omega
          have hrk : ∀ w', Below w.heap.size w w' → RdF w' ⟨some ⟨g, off, none⟩, k, (k + 1)⟩ (l.take k) := fun w' h => Row.take_ (Row.below hr h) (Nat.le_of_lt hkn)
          go_wp2_with fail
          refine region_at fun W hW => ?_
          have hWb : Below w.heap.size w W := by rw [hW.out]; exact H2
          clear hW
          go_region_held3 (fun w' => True) (first | trivial | go_keep) (first | (go_at_call 57; refine Calls.mono (copyFactors_k ⟨some ⟨g, off, none⟩, k, (k + 1)⟩ (l.take k) _ hfk (hrk _ (by repeat (first | with_reducible exact hWb | with_reducible refine bAlloc ?_ _ | with_reducible refine bDrew ?_ | with_reducible refine bDrewN ?_ _)))) ?_; rintro e w3 ⟨v3, rfl, ho3, hf3, hk3⟩) | (refine step_append rfl (.tmp 22) (.tmp 26) 23 rfl w.heap.size 28 8 80 i0 _ Tryd.underlying23 hii hq0 hq1 hq2 rfl (by omega) v3.A v3.n v3.c _ rfl (Own.from_ (OwF.own ho3) (fun g hg => by have h9 := hf3.lo g hg; have h8 := hWb.size; (try simp at h9); omega)) _ 0 _ ((l.drop (k + 1)).map Factor.cells) rfl (HRD.out _ (bTrans (by repeat (first | with_reducible exact hWb | with_reducible refine bAlloc ?_ _ | with_reducible refine bDrew ?_ | with_reducible refine bDrewN ?_ _)) hk3)) one_F cell_F (by have h9 := (OwF.own ho3).len; simp at h9; simp only [maxLen]; omega) (by have h9 := (OwF.own ho3).len; simp at h9; omega) (by have h9 := hk3.size; have h8 := hWb.size; (try simp at h9); (try simp); omega) ?_; intro A4 c4 w4 ho4 hg4 hat4))
          have H3 := bTrans (show Below w.heap.size w _ from (by repeat (first | with_reducible exact hWb | with_reducible refine bAlloc ?_ _ | with_reducible refine bDrew ?_ | with_reducible refine bDrewN ?_ _))) hk3
          have H4 := bGrown (show Below w.heap.size w _ from by repeat (first | with_reducible exact H3 | with_reducible refine bAlloc ?_ _ | with_reducible refine bDrew ?_ | with_reducible refine bDrewN ?_ _)) hg4 (fun q hq => by have h9 := hf3.lo q (mem_obl.2 hq); have h8 := hWb.size; (try simp at h9); omega)
          rw [← List.map_append] at ho4
          clear HRD hrk
          go_wp2_with fail
          refine bodyPost_ret (v := .tuple #[.slice A4 (v3.n + 0) c4, .bool true]) (by simp [*, results, Tryd.results15, go_sem]) rfl ⟨⟨A4, v3.n + 0, c4⟩, by rw [E.out], ?_⟩
          rw [E.out]; exact ⟨ho4.zero, Fresh.obl_ ho4, H4⟩
        · have hkc1 : (k : Int) + 1 < (c : Int) := by omega
          have hrd : ∀ w', Below w.heap.size w w' → Row w' (some ⟨g, off + (k + 1) * 8, none⟩) (n - (k + 1)) 8 ((l.drop (k + 1)).map Factor.cells) := fun w' h => Row.below (Row.drop_ (c := Factor.cells) hr (k := k + 1) (by show k + 1 ≤ n; omega)) h
          have HRD := Lib.hid hrd
          clear hrd
          have hfk : fewF (l.take k) := by unfold fewF at *; rw [List.length_take]; omega
          have hrk : ∀ w', Below w.heap.size w w' → RdF w' ⟨some ⟨g, off, none⟩, k, c⟩ (l.take k) := fun w' h => Row.take_ (Row.below hr h) (Nat.le_of_lt hkn)
          go_wp2_with fail
          refine region_at fun W hW => ?_
          have hWb : Below w.heap.size w W := by rw [hW.out]; exact H2
          clear hW
          go_region_held3 (fun w' => True) (first | trivial | go_keep) (first | (go_at_call 57; refine Calls.mono (copyFactors_k ⟨some ⟨g, off, none⟩, k, c⟩ (l.take k) _ hfk (hrk _ (by repeat (first | with_reducible exact hWb | with_reducible refine bAlloc ?_ _ | with_reducible refine bDrew ?_ | with_reducible refine bDrewN ?_ _)))) ?_; rintro e w3 ⟨v3, rfl, ho3, hf3, hk3⟩) | (refine step_append rfl (.tmp 22) (.tmp 26) 23 rfl w.heap.size 28 8 80 i0 _ Tryd.underlying23 hii hq0 hq1 hq2 rfl (by omega) v3.A v3.n v3.c _ rfl (Own.from_ (OwF.own ho3) (fun g hg => by have h9 := hf3.lo g hg; have h8 := hWb.size; (try simp at h9); omega)) _ (n - (k + 1)) _ ((l.drop (k + 1)).map Factor.cells) rfl (HRD.out _ (bTrans (by repeat (first | with_reducible exact hWb | with_reducible refine bAlloc ?_ _ | with_reducible refine bDrew ?_ | with_reducible refine bDrewN ?_ _)) hk3)) one_F cell_F (by have h9 := (OwF.own ho3).len; simp at h9; simp only [maxLen]; omega) (by have h9 := (OwF.own ho3).len; simp at h9; omega) (by have h9 := hk3.size; have h8 := hWb.size; (try simp at h9); (try simp); omega) ?_; intro A4 c4 w4 ho4 hg4 hat4))
          have H3 := bTrans (show Below w.heap.size w _ from (by repeat (first | with_reducible exact hWb | with_reducible refine bAlloc ?_ _ | with_reducible refine bDrew ?_ | with_reducible refine bDrewN ?_ _))) hk3
          have H4 := bGrown (show Below w.heap.size w _ from by repeat (first | with_reducible exact H3 | with_reducible refine bAlloc ?_ _ | with_reducible refine bDrew ?_ | with_reducible refine bDrewN ?_ _)) hg4 (fun q hq => by have h9 := hf3.lo q (mem_obl.2 hq); have h8 := hWb.size; (try simp at h9); omega)
          rw [← List.map_append] at ho4
          clear HRD hrk
          go_wp2_with fail
          refine bodyPost_ret (v := .tuple #[.slice A4 (v3.n + (n - (k + 1))) c4, .bool true]) (by simp [*, results, Tryd.results15, go_sem]) rfl ⟨⟨A4, v3.n + (n - (k + 1)), c4⟩, by rw [E.out], ?_⟩
          rw [E.out]; exact ⟨ho4.zero, Fresh.obl_ ho4, H4⟩
end Go.Proofs.YtebcdjpddoaajaaDoor

/- FactorIds of the program; the laws' hasInt. -/
namespace Go.Proofs.YtebcdjpddoaajaaDoor
open Go.RowKit
set_option linter.unusedVariables false
set_option linter.unusedSimpArgs false
set_option maxHeartbeats 4000000
set_option maxRecDepth 100000
theorem info_IntF : (Tryd.prog.info? 3).map (fun i => (i.zero, i.size, i.bytes)) = some (some (.int .i64 0), 1, 8) := by kernel_rfl
def idsOf (l : List Factor) (kd : Int) : List Int := (l.filter fun f => f.kind == kd).map (·.id)
theorem idsOf_snoc {l : List Factor} {k : Nat} {f : Factor} {kd : Int} (h : l[k]? = some f) : idsOf (l.take (k + 1)) kd = idsOf (l.take k) kd ++ if f.kind == kd then [f.id] else [] := by
  obtain ⟨hi, he⟩ := List.getElem?_eq_some_iff.1 h
  unfold idsOf
  rw [List.take_succ_eq_append_getElem hi, List.filter_append, List.map_append, he]
  cases hk : f.kind == kd <;> simp [List.filter_cons, hk]
theorem FactorIds_c (A : Option Addr) (n c : Nat) (l : List Factor) (kd : Int) (w : World) (hn : n ≤ 1048576) (hr : RowF w A n l) :
    Calls Tryd.prog 20 #[.slice A n c, .int .i64 kd] w fun e w' => ∃ v : Sv, e = .returned (.slice v.A v.n v.c) ∧ RowI w' v.A v.n (idsOf l kd) ∧ v.n ≤ n ∧ Below w.heap.size w w' := by
  obtain ⟨i0, hii, hq0, hq1, hq2⟩ := info_parts info_IntF
  have HL := Lib.hid hr.len
  have HR := Lib.hid hr
  clear hr
  go_enter Tryd.func20, Tryd.ntmps20
  go_wp2_with fail
  go_loopw [5, 11] (fun sv iv wr => ∃ (k m : Nat) (A' : Option Addr) (c' : Nat), k ≤ n ∧ iv = .int .i64 (k : Int) ∧ sv = .slice A' m c' ∧ m ≤ k ∧ Own wr w.heap.size 3 1 A' m c' ((idsOf (l.take k) kd).map intCells) ∧ Below w.heap.size w wr) (fun _ iv _ => n - (intOf iv).toNat)
  case atStart => exact ⟨0, 0, _, 0, Nat.zero_le _, rfl, rfl, Nat.le_refl _, Own.made0 w _ 1 (Nat.le_refl _), bAlloc (Below.refl _ _) _⟩
  case round =>
    obtain ⟨k, m, A', c', hk, rfl, rfl, hmk, ho, hb⟩ := hrel
    have HO := Lib.hid ho
    have HB := Lib.hid hb
    have hszb := hb.size
    clear ho hb
    by_cases hlt : k < n
    · obtain ⟨f, g, off, hf, rfl, g0, g1, g2, g3, g4, g5, g6, g7⟩ := RowF.at_ (Row.below HR.out HB.out) hlt
      have hsn := idsOf_snoc (kd := kd) hf.out
      by_cases hkd : f.kind = kd
      · have hkb : (f.kind == kd) = true := by simpa using hkd
        rw [hkb, if_pos rfl] at hsn
        have HS := Lib.hid hsn
        clear hsn hf
        go_wp2_with (at_builtin; refine wpList_append rfl (.tmp 19) (.tmp 22) 41 rfl w.heap.size 3 1 8 i0 _ Tryd.underlying41 hii hq0 hq1 hq2 rfl (by omega) A' m c' ((idsOf (l.take k) kd).map intCells) rfl (HO.out.below (by repeat (first | with_reducible exact Below.refl _ _ | with_reducible refine bAlloc ?_ _ | with_reducible refine bDrew ?_ | with_reducible refine bDrewN ?_ _))) _ 1 1 [[.int .i64 f.id]] rfl (Row.new1' _ _ [.int .i64 f.id] 1 _ (by simp)) (by simp) (by simp [Value.oneCell']) (by simp only [maxLen]; omega) (by omega) (by simp; omega) ?_; intro A5 c5 w5 ho5 hg5 hat5; have HB5 : Below w.heap.size w w5 := bGrown (by repeat (first | with_reducible exact HB.out | with_reducible refine bAlloc ?_ _ | with_reducible refine bDrew ?_ | with_reducible refine bDrewN ?_ _)) hg5 (fun q hq => (HO.out.lt q hq).1))
        exact ⟨⟨k + 1, m + 1, A5, c5, by omega, by simp, by simp, by omega, by rw [HS.out, List.map_append]; exact ho5, HB5⟩, by simp only [intOf]; omega⟩
      · have hkb : (f.kind == kd) = false := by simpa using hkd
        rw [hkb, if_neg (by simp), List.append_nil] at hsn
        have HS := Lib.hid hsn
        clear hsn hf
        go_wp2_with fail
        exact ⟨⟨k + 1, m, A', c', by omega, by simp, rfl, by omega, by rw [HS.out]; exact HO.out.below (bAlloc (Below.refl _ _) _), bAlloc HB.out _⟩, by simp only [intOf]; omega⟩
    · obtain rfl : k = n := by omega
      have hkk : ¬ (k : Int) < (k : Int) := by omega
      have hT : l.take k = l := List.take_of_length_le (by have h : l.length = k := HL.out; omega)
      have HF := HO.out.row
      rw [hT] at HF
      go_wp2_with fail
      refine bodyPost_ret (v := .slice A' m c') (by simp [*, results, Tryd.results20, go_sem]) rfl ⟨⟨A', m, c'⟩, rfl, HF, hmk, HB.out⟩
theorem hasIntL_c (A : Option Addr) (n c : Nat) (l : List Int) (x : Int) (w : World) (hn : n ≤ 1048576) (hr : RowI w A n l) :
    Calls Tryd.prog 19 #[.slice A n c, .int .i64 x] w fun e w' => e = rBool (decide (x ∈ l)) ∧ w' = w := by
  have hl := hr.len
  go_enter Tryd.func19, Tryd.ntmps19
  go_wp2_with fail
  go_loopw [9] (fun i wr => ∃ (k : Nat), k ≤ n ∧ i = .int .i64 k ∧ decide (x ∈ l) = decide (x ∈ l.drop k) ∧ wr = w) (fun i _ => n - (intOf i).toNat)
  case atStart => exact ⟨0, by omega, rfl, rfl, rfl⟩
  case round =>
    obtain ⟨k, hk, rfl, hi, rfl⟩ := hrel
    by_cases hlt : k < n
    · obtain ⟨f, g, off, hf, rfl, g0⟩ := RowI.at_ hr hlt
      have hd := drop_at hf
      have HI := Lib.hid hi
      have HD := Lib.hid hd
      clear hi hd
      by_cases hx : f = x
      · have hfin : Hid (decide (x ∈ l) = true) := by rw [Hid, HI.out, HD.out]; simp [hx]
        go_wp2_with fail
        go_ret
        exact ⟨by rw [hfin.out]; rfl, rfl⟩
      · have hnx : Hid (decide (x ∈ l) = decide (x ∈ l.drop (k + 1))) := by rw [Hid, HI.out, HD.out]; simp [Ne.symm hx]
        go_wp2_with fail
        go_roundw
        case rel => exact ⟨k + 1, by omega, by go_num, hnx.out, by first | trivial | rfl⟩
        case measure => simp [intOf]; omega
    · have hfin : Hid (decide (x ∈ l) = false) := by rw [Hid, hi, drop_end hl hlt]; simp
      go_wp2_with fail
      go_ret
      exact ⟨by rw [hfin.out]; rfl, rfl⟩
end Go.Proofs.YtebcdjpddoaajaaDoor
