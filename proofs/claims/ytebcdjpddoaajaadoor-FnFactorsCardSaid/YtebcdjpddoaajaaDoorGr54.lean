/- Texts of this proof, one behind the other: Draw7, FctP, Draw8. -/
import Derived.Test.YtebcdjpddoaajaaDoorGr46
import Derived.Test.YtebcdjpddoaajaaDoorGr51
import Derived.Test.YtebcdjpddoaajaaDoorGr53
/- The draws of a shared list: l28List, MakeShared; of a robot's list: MakeFactors; of one factor: MakeFactor. -/
namespace Go.Proofs.YtebcdjpddoaajaaDoor
open Go.RowKit
set_option linter.unusedVariables false
set_option linter.unusedSimpArgs false
set_option maxHeartbeats 1000000
set_option maxRecDepth 100000
def nm7 : List (List UInt8) := [(pnm 0).toList, (pnm 1).toList, (pnm 2).toList, (pnm 3).toList, (pnm 4).toList, (mnm 0).toList, (mnm 1).toList]
theorem nmOK.in7 {s : ByteArray} (h : nmOK s) : s.toList = [] ∨ s.toList ∈ nm7 := by
  rcases h with rfl | ⟨j, hj, rfl⟩ | ⟨j, hj, rfl⟩
  · exact .inl (by decide +kernel)
  · right
    match j, hj with
    | 0, _ | 1, _ | 2, _ | 3, _ | 4, _ => simp [nm7]
    | j + 5, hj => omega
  · right
    match j, hj with
    | 0, _ | 1, _ => simp [nm7]
    | j + 2, hj => omega
theorem FOK.names {l : List Factor} (h : ∀ f ∈ l, FOK f) : (namesOf l).length ≤ 7 := names_in (S := nm7) fun f hf => ⟨(h f hf).2.1.in7, (h f hf).2.2.in7⟩
/-- the state of l28List behind i rounds -/
structure SInv (r : Int) (i : Nat) (l : List Factor) : Prop where
  len : l.length = i
  fok : ∀ f ∈ l, FOK f
  lt : ∀ f ∈ l, f.id < 1000 * r + i
  asc : ascL l none = true
theorem SInv.push {r r' : Int} {i : Nat} {l : List Factor} {f : Factor} (h : SInv r i l) (hf : FOK f) (h0 : 0 ≤ r) (hr : r ≤ r') (h2 : r' ≤ 2) (hi : i ≤ 100) : SInv r' (i + 1) (l ++ [⟨1000 * r' + i, f.kind, f.frm, f.to, f.pose, f.weight⟩]) := by
  have hv := vld_setid hf.1 (x := 1000 * r' + i) ⟨by omega, by omega⟩
  refine ⟨by simp [h.len], fun g hg => ?_, fun g hg => ?_, ascL_snoc h.asc hv (fun g hg => ?_) rfl⟩
  · rcases List.mem_append.1 hg with hg | hg
    · exact h.fok g hg
    · simp at hg; subst hg; exact ⟨hv, hf.2⟩
  · rcases List.mem_append.1 hg with hg | hg
    · have := h.lt g hg; push_cast; omega
    · simp at hg; subst hg; simp; omega
  · have := h.lt g hg; show g.id < 1000 * r' + i; omega
theorem SInv.fl {r : Int} {i : Nat} {l : List Factor} (h : SInv r i l) (hi : i ≤ 40) : isFL l = true := by
  unfold isFL
  have h1 := FOK.names h.fok
  simp only [Bool.and_eq_true, decide_eq_true_eq]
  exact ⟨by rw [h.len]; exact hi, h.asc, by omega⟩
/-- behind the append of a round of l28List -/
theorem l28_push {W w w2 w5 : World} {b : Nat} {A : Option Addr} {n c X : Nat} {A' VA A5 : Option Addr} {k c' vn vc c5 : Nat} {css ces : List (List Value)} {cs5 : List (List Value)} {u : Value} {o : Obj} (hlt : b < w.heap.size) (HWW : Below W.heap.size W w) (HbW : W.heap.size ≤ b)
    (hc : Cur W w2 b A n c) (hu : Upd [b] w w2) (ho : Own w2 w.heap.size 28 8 A' k c' css) (hov : Own w2 w.heap.size 28 8 VA vn vc ces) (hd : ∀ q, ob VA = some q → ¬ ob A' = some q)
    (hX : w.heap.size ≤ X) (hXV : ¬ ob VA = some X) (hg : ((w2.setCell ⟨X, 0, none⟩ u).alloc o).grownBy w5 (ob A')) (ho5 : Own w5 w.heap.size 28 8 A5 (k + 1) c5 cs5) (hat : ob A5 = ob A' ∨ ob A5 = some ((w2.setCell ⟨X, 0, none⟩ u).alloc o).heap.size) :
    Own w5 w.heap.size 28 8 VA vn vc ces ∧ (∀ q, ob VA = some q → ¬ ob A5 = some q) ∧ Cur W w5 b A n c ∧ Upd [b] w w5 := by
  have hs : Upd [X] w2 (w2.setCell ⟨X, 0, none⟩ u) := (Upd.refl _ _).set_in (by simp) _
  have hov2 := hov.upd hs (fun q hq hm => by simp only [List.mem_singleton] at hm; subst hm; exact hXV (mem_obl.1 hq))
  have hu2 := (hu.set_new (p := ⟨X, 0, none⟩) hX u).alloc_ o
  have hc2 := (hc.set_ (p := ⟨X, 0, none⟩) (Nat.lt_of_lt_of_le hlt hX) u).alloc_ o
  have hu5 : Upd [b] w w5 := Upd.grown_hi2 hu2 hg (fun q hq => (ho.lt q hq).1)
  refine ⟨(hov2.alloc_ o).upd (Upd.of_row hg) (fun q hq hm => hd q (mem_obl.1 hq) (mem_obl.1 hm)), fun q hq e => ?_, hc2.keep (bUpd1 (w := w) HWW hu5 HbW) (hg.block b (by have := hc.lt; simp; omega) (fun e => by have := (ho.lt b e.symm).1; omega)), hu5⟩
  rcases hat with h1 | h1
  · exact hd q hq (h1 ▸ e)
  · rw [h1] at e
    have h2 := Option.some.inj e
    have h3 := (hov.lt q hq).2
    simp at h2; omega
theorem l28List_c {W w : World} {b : Nat} {A : Option Addr} {n c : Nat} (hy : Bytes W A n) (hn : n ≤ 1048576) (h : Cur W w b A n c) :
    Calls Tryd.prog 59 #[.pointer (some ⟨b, 0, none⟩)] w fun e w' => ∃ (v : Sv) (l : List Factor), e = .returned (.slice v.A v.n v.c) ∧ isFL l = true ∧ 0 < l.length ∧ Own w' w.heap.size 28 8 v.A v.n v.c (l.map Factor.cells) ∧ Cur W w' b A n c ∧ Upd [b] w w' := by
  obtain ⟨i0, hi, hz0, hz1, hz2⟩ := info_parts info_Factor
  have hlt := h.lt
  have HWW := Lib.hid h.hB
  have HbW := Lib.hid h.hb
  have hy' := Lib.hid hy
  have HC := Lib.hid (h.alloc_ (.cells #[] 28))
  clear h hy
  go_enter Tryd.func59, Tryd.ntmps59
  go_wp2_with fail
  refine Calls.mono (l16List_c hy'.out hn HC.out) ?_
  rintro e w1 ⟨v, l0, rfl, hlen, hfok, hov, hc1, hu1⟩
  have hpos : 0 < l0.length := hfok.1
  have hfok := hfok.2.1
  have U1 : Upd [b] w w1 := (Upd.of_below (bAlloc (Below.refl _ _) _)).trans hu1
  have ho1 : Own w1 w.heap.size 28 8 (some ⟨w.heap.size, 0, none⟩) 0 0 [] := (Own.made0 w _ 8 (Nat.le_refl _)).upd hu1 (fun k hk hm => by simp [obl, ob] at hk hm; omega)
  have hvlo : Hid (∀ q, ob v.A = some q → w.heap.size + 1 ≤ q) := fun q hq => by have := (hov.lt q hq).1; simp at this; omega
  have hov1 : Own w1 w.heap.size 28 8 v.A v.n v.c (l0.map Factor.cells) := hov.rebase (by simp)
  have HLV : Hid (l0.length = v.n) := by have := hov.len; rw [List.length_map] at this; exact this
  have hvn : v.n ≤ 8 := by have := HLV.out; omega
  have HFOK := Lib.hid hfok
  obtain ⟨VA, vn, vc⟩ := v
  dsimp only at *
  have hd0 : ∀ q, ob VA = some q → ¬ ob (some (⟨w.heap.size, 0, none⟩ : Addr)) = some q := fun q hq e => by have h1 := hvlo.out q hq; simp [ob] at e; omega
  have HD0 := Lib.hid hd0
  have HC1 := Lib.hid hc1
  clear HC hov hfok hc1 hu1 hd0
  go_wp2_with fail
  go_loopw [3, 4, 11] (fun s r i wr => ∃ (k : Nat) (rr : Int) (A' : Option Addr) (c' : Nat) (l : List Factor), k ≤ vn ∧ s = .slice A' k c' ∧ r = .int .i64 rr ∧ i = .int .i64 (k : Int) ∧ 0 ≤ rr ∧ rr ≤ 2 ∧ SInv rr k l ∧ Own wr w.heap.size 28 8 A' k c' (l.map Factor.cells) ∧ Own wr w.heap.size 28 8 VA vn vc (l0.map Factor.cells) ∧ (∀ q, ob VA = some q → ¬ ob A' = some q) ∧ Cur W wr b A n c ∧ Upd [b] w wr) (fun _ _ i _ => vn - (intOf i).toNat)
  case atStart => exact ⟨0, 0, _, 0, [], by omega, rfl, rfl, rfl, by omega, by omega, ⟨rfl, by simp, by simp, rfl⟩, by simpa using ho1, hov1, HD0.out, HC1.out, U1⟩
  case round =>
    obtain ⟨k, rr, A', c', l, hk, rfl, rfl, rfl, hr0, hr2, hsi, ho, hov, hd, hc, hu⟩ := hrel
    have HC2 := Lib.hid hc
    have SI := Lib.hid hsi
    have HD := Lib.hid hd
    have HO := Lib.hid ho
    have HOV := Lib.hid hov
    have HU := Lib.hid hu
    clear hc hsi hd ho hov hu HC1 ho1 hov1 U1
    by_cases hltk : k < vn
    · obtain ⟨f, g, off, hf, hA, g0, g1, g2, g3, g4, g5, g6, g7⟩ := RowF.at_ HOV.out.row hltk
      have hff := HFOK.out f (List.mem_of_getElem? hf.out)
      have HFF := Lib.hid hff
      have hx0 : (0 : Int) ≤ (k : Int) := by omega
      have hx1 : (k : Int) < (vn : Int) := by omega
      have HC3 := Lib.hid (HC2.out.alloc_ (.cells f.cells.toArray 28))
      have hsz := HU.out.size
      subst hA
      clear hff hf
      go_wp2_with fail
      refine Calls.mono (l01Once_c hy'.out hn HC3.out 3 (by omega) (by omega)) ?_
      rintro e w2 ⟨o, rfl, hc2, hu2⟩
      have U2 := (HU.out.alloc_ (.cells f.cells.toArray 28)).trans hu2
      have HO2 := Lib.hid ((HO.out.alloc_ (.cells f.cells.toArray 28)).upd hu2 (fun q hq hm => by have h1 := (HO.out.lt q (mem_obl.1 hq)).1; simp at hm; omega))
      have HOV2 := Lib.hid ((HOV.out.alloc_ (.cells f.cells.toArray 28)).upd hu2 (fun q hq hm => by have h1 := (HOV.out.lt q (mem_obl.1 hq)).1; simp at hm; omega))
      have bx := Own.box (t := 28) (cs := f.cells) (heap_alloc_new wr _) rfl
      have bx2 := (bx.upd hu2 (fun q hq hm => by simp [obl, ob] at hq hm; omega))
      have q0 := bx2.bcell 0 _ rfl; have q1 := bx2.bcell 1 _ rfl; have q2 := bx2.bcell 2 _ rfl; have q3 := bx2.bcell 3 _ rfl
      have q4 := bx2.bcell 4 _ rfl; have q5 := bx2.bcell 5 _ rfl; have q6 := bx2.bcell 6 _ rfl; have q7 := bx2.bcell 7 _ rfl
      have qf : ∀ o, w2.frozen? ⟨wr.heap.size, o, none⟩ = false := fun o => (uBoxF hu2 wr.heap.size (by simp) (by simp; omega) o).trans (frozen_a _ _ _ o)
      have qz : wr.heap.size < w2.heap.size := by have := hu2.size; simp at this; omega
      have HA' : Hid (∀ q, ob A' = some q → q < wr.heap.size) := fun q hq => (HO.out.lt q hq).2
      have HXV : ¬ ob (some (⟨g, off, none⟩ : Addr)) = some wr.heap.size := fun e => by have := (HOV.out.lt _ e).2; omega
      have HC4 := Lib.hid hc2
      have U2' := Lib.hid U2
      have hw1 : ∀ z : Int, 0 ≤ z → z ≤ 2 → IntKind.i64.wrap (1000 * z) = 1000 * z := fun z h1 h2 => by rw [IntKind.wrap_i64]; omega
      clear hc2 hu2 HC3 bx bx2 U2 HC2 HU HO HOV g0 g1 g2 g3 g4 g5 g6 g7
      generalize wr.heap.size = X at *
      have hkk : (k : Int) ≤ 8 := by omega
      cases o with
      | true =>
        by_cases hr1 : rr < 2
        · have hra : IntKind.i64.wrap (rr + 1) = rr + 1 := by rw [IntKind.wrap_i64]; omega
          have HOs := Lib.hid (HO2.out.upd ((Upd.refl [X] w2).set_in (p := ⟨X, 0, none⟩) (by simp) (.int .i64 (1000 * (rr + 1) + (k : Int)))) (fun q hq hm => by simp only [List.mem_singleton] at hm; subst hm; have := HA'.out q (mem_obl.1 hq); omega))
          have hw3 := hw1 ((rr + 1)) (by omega) (by omega)
          have hw4 : IntKind.i64.wrap (1000 * (rr + 1) + (k : Int)) = 1000 * (rr + 1) + (k : Int) := by rw [IntKind.wrap_i64]; omega
          clear hw1
          go_wp2_with (at_builtin; refine wpList_append rfl (.tmp 29) (.tmp 31) 23 rfl w.heap.size 28 8 80 i0 _ Tryd.underlying23 hi hz0 hz1 hz2 rfl (by omega) A' k c' _ rfl (HOs.out.alloc_ _) _ 1 1 [Factor.cells ⟨1000 * (rr + 1) + (k : Int), f.kind, f.frm, f.to, f.pose, f.weight⟩] rfl (Row.new1' _ _ _ 8 _ (by simp)) (by simp [Factor.cells]) (by simp [Factor.cells, Value.oneCell']) (by simp only [maxLen]; omega) (by omega) (by simp; omega) ?_; intro A5 c5 w5 ho5 hg5 hat5)
          obtain ⟨p1, p2, p3, p4⟩ := l28_push hlt HWW.out HbW.out HC4.out U2'.out HO2.out HOV2.out HD.out hsz HXV hg5 ho5 hat5
          exact ⟨⟨k + 1, (rr + 1), A5, c5, l ++ [⟨1000 * (rr + 1) + (k : Int), f.kind, f.frm, f.to, f.pose, f.weight⟩], by omega, rfl, by simp, by simp, by omega, by omega, SI.out.push HFF.out hr0 (by omega) (by omega) (by omega), by simpa using ho5, p1, p2, p3, p4⟩, by simp only [intOf]; omega⟩
        · have HOs := Lib.hid (HO2.out.upd ((Upd.refl [X] w2).set_in (p := ⟨X, 0, none⟩) (by simp) (.int .i64 (1000 * rr + (k : Int)))) (fun q hq hm => by simp only [List.mem_singleton] at hm; subst hm; have := HA'.out q (mem_obl.1 hq); omega))
          have hw3 := hw1 (rr) (by omega) (by omega)
          have hw4 : IntKind.i64.wrap (1000 * rr + (k : Int)) = 1000 * rr + (k : Int) := by rw [IntKind.wrap_i64]; omega
          clear hw1
          go_wp2_with (at_builtin; refine wpList_append rfl (.tmp 29) (.tmp 31) 23 rfl w.heap.size 28 8 80 i0 _ Tryd.underlying23 hi hz0 hz1 hz2 rfl (by omega) A' k c' _ rfl (HOs.out.alloc_ _) _ 1 1 [Factor.cells ⟨1000 * rr + (k : Int), f.kind, f.frm, f.to, f.pose, f.weight⟩] rfl (Row.new1' _ _ _ 8 _ (by simp)) (by simp [Factor.cells]) (by simp [Factor.cells, Value.oneCell']) (by simp only [maxLen]; omega) (by omega) (by simp; omega) ?_; intro A5 c5 w5 ho5 hg5 hat5)
          obtain ⟨p1, p2, p3, p4⟩ := l28_push hlt HWW.out HbW.out HC4.out U2'.out HO2.out HOV2.out HD.out hsz HXV hg5 ho5 hat5
          exact ⟨⟨k + 1, rr, A5, c5, l ++ [⟨1000 * rr + (k : Int), f.kind, f.frm, f.to, f.pose, f.weight⟩], by omega, rfl, rfl, by simp, by omega, by omega, SI.out.push HFF.out hr0 (by omega) (by omega) (by omega), by simpa using ho5, p1, p2, p3, p4⟩, by simp only [intOf]; omega⟩
      | false =>
        have HOs := Lib.hid (HO2.out.upd ((Upd.refl [X] w2).set_in (p := ⟨X, 0, none⟩) (by simp) (.int .i64 (1000 * rr + (k : Int)))) (fun q hq hm => by simp only [List.mem_singleton] at hm; subst hm; have := HA'.out q (mem_obl.1 hq); omega))
        have hw3 := hw1 (rr) (by omega) (by omega)
        have hw4 : IntKind.i64.wrap (1000 * rr + (k : Int)) = 1000 * rr + (k : Int) := by rw [IntKind.wrap_i64]; omega
        clear hw1
        go_wp2_with (at_builtin; refine wpList_append rfl (.tmp 29) (.tmp 31) 23 rfl w.heap.size 28 8 80 i0 _ Tryd.underlying23 hi hz0 hz1 hz2 rfl (by omega) A' k c' _ rfl (HOs.out.alloc_ _) _ 1 1 [Factor.cells ⟨1000 * rr + (k : Int), f.kind, f.frm, f.to, f.pose, f.weight⟩] rfl (Row.new1' _ _ _ 8 _ (by simp)) (by simp [Factor.cells]) (by simp [Factor.cells, Value.oneCell']) (by simp only [maxLen]; omega) (by omega) (by simp; omega) ?_; intro A5 c5 w5 ho5 hg5 hat5)
        obtain ⟨p1, p2, p3, p4⟩ := l28_push hlt HWW.out HbW.out HC4.out U2'.out HO2.out HOV2.out HD.out hsz HXV hg5 ho5 hat5
        exact ⟨⟨k + 1, rr, A5, c5, l ++ [⟨1000 * rr + (k : Int), f.kind, f.frm, f.to, f.pose, f.weight⟩], by omega, rfl, rfl, by simp, by omega, by omega, SI.out.push HFF.out hr0 (by omega) (by omega) (by omega), by simpa using ho5, p1, p2, p3, p4⟩, by simp only [intOf]; omega⟩
    · obtain rfl : k = vn := by omega
      have hkn : ¬ (k : Int) < (k : Int) := by omega
      go_wp2_with fail
      refine bodyPost_ret (v := .slice A' k c') (by simp [*, results, Tryd.results59, go_sem]) rfl ?_
      have hle := SI.out.len
      exact ⟨⟨A', k, c'⟩, rfl, l, SI.out.fl (by omega), by have := HLV.out; omega, HO.out, HC2.out, HU.out⟩
theorem MakeShared_c {W w : World} {A : Option Addr} {n c : Nat} (hB : Below W.heap.size W w) (hy : Bytes W A n) (hn : n ≤ 1048576) :
    Calls Tryd.prog 21 #[.slice A n c] w fun e w' => ∃ (v : Sv) (l : List Factor), e = .returned (.slice v.A v.n v.c) ∧ isFL l = true ∧ 0 < l.length ∧ OwF w' v l ∧ Fresh w.heap.size w' (fpF v) ∧ Below w.heap.size w w' := by
  have HB := Lib.hid hB
  have hy' := Lib.hid hy
  clear hB hy
  go_enter Tryd.func21, Tryd.ntmps21
  go_wp2_with fail
  refine Calls.mono (l01New_c (c := c) HB.out hy'.out hn) ?_
  rintro e w1 ⟨b, rfl, hb, hc1, hb1⟩
  have HC := Lib.hid hc1
  have hs := hb1.size
  have B1 := Lib.hid hb1
  clear hc1 hb1
  go_wp2_with fail
  refine Calls.mono (l28List_c hy'.out hn HC.out) ?_
  rintro e w2 ⟨v, l, rfl, hfl, hpos, ho, hc2, hu2⟩
  have FL := Lib.hid hfl
  have PO := Lib.hid hpos
  have B2 := Lib.hid (bUpd1 (W := w) B1.out hu2 hb)
  clear hfl hpos hc2 hu2
  go_wp2_with fail
  go_ret
  exact ⟨v, l, rfl, FL.out, PO.out, ho.zero, Fresh.rebase (Fresh.obl_ ho) hs, B2.out⟩
theorem MakeFactors_c {W w : World} {A : Option Addr} {n c : Nat} (hB : Below W.heap.size W w) (hy : Bytes W A n) (hn : n ≤ 1048576) :
    Calls Tryd.prog 10 #[.slice A n c] w fun e w' => ∃ (v : Sv) (l : List Factor), e = .returned (.slice v.A v.n v.c) ∧ l.length ≤ 8 ∧ GOK l ∧ OwF w' v l ∧ Fresh w.heap.size w' (fpF v) ∧ Below w.heap.size w w' := by
  have HB := Lib.hid hB
  have hy' := Lib.hid hy
  clear hB hy
  go_enter Tryd.func10, Tryd.ntmps10
  go_wp2_with fail
  refine Calls.mono (l01New_c (c := c) HB.out hy'.out hn) ?_
  rintro e w1 ⟨b, rfl, hb, hc1, hb1⟩
  have HC := Lib.hid hc1
  have hs := hb1.size
  have B1 := Lib.hid hb1
  clear hc1 hb1
  go_wp2_with fail
  refine Calls.mono (l16List_c hy'.out hn HC.out) ?_
  rintro e w2 ⟨v, l, rfl, hlen, hgok, ho, hc2, hu2⟩
  have FL := Lib.hid hgok
  have B2 := Lib.hid (bUpd1 (W := w) B1.out hu2 hb)
  clear hgok hc2 hu2
  go_wp2_with fail
  go_ret
  exact ⟨v, l, rfl, hlen, FL.out, ho.zero, Fresh.rebase (Fresh.obl_ ho) hs, B2.out⟩
end Go.Proofs.YtebcdjpddoaajaaDoor

/- Factors: one more factor behind a robot's list, and out again. Plain. -/
namespace Go.Proofs.YtebcdjpddoaajaaDoor
open Go.RowKit
set_option linter.unusedVariables false
set_option linter.unusedSimpArgs false
set_option maxRecDepth 100000
theorem GOK.ids {l : List Factor} (h : GOK l) (h8 : l.length ≤ 8) : ∀ g ∈ l, g.id < 77 := by
  intro g hg
  obtain ⟨i, hi⟩ := List.getElem?_of_mem hg
  have := h.2.2 i g hi
  have := (List.getElem?_eq_some_iff.1 hi).1
  omega
theorem tw_all {p : Factor → Bool} : ∀ (l : List Factor), (∀ g ∈ l, p g = true) → l.takeWhile p = l
  | [], _ => rfl
  | a :: l, h => by rw [List.takeWhile_cons_of_pos (h a (by simp)), tw_all l fun g hg => h g (by simp [hg])]
theorem ins_end {l : List Factor} {f : Factor} (h : ∀ g ∈ l, g.id < f.id) : insF l f = l ++ [f] := by
  have e : l.takeWhile (below f) = l := by
    exact tw_all l fun g hg => decide_eq_true (h g hg)
  unfold insF insAt
  rw [e, List.take_of_length_le (Nat.le_refl _), List.drop_of_length_le (Nat.le_refl _)]
theorem no_id {l : List Factor} {i : Int} (h : ∀ g ∈ l, g.id < i) : hasId l i = false := by
  cases hh : hasId l i with
  | false => rfl
  | true =>
    obtain ⟨g, hg, he⟩ := hasId_iff.1 hh
    have := h g hg
    omega
theorem fct_no {l : List Factor} {f : Factor} (hl : isFL l = true) (h8 : l.length ≤ 8) (hi : ∀ g ∈ l, g.id < f.id) (hv : vldFactor f = true) (hn : (addF l f).2 = false) : 10 ≤ (namesOf (l ++ [f])).length := by
  rcases (rej_iff hl hv).1 hn with h | h | h
  · rw [no_id hi] at h; cases h
  · omega
  · rw [ins_end hi] at h; exact h
theorem fct_yes {l : List Factor} {f : Factor} (hi : ∀ g ∈ l, g.id < f.id) (hn : (addF l f).2 = true) : (addF l f).1 = l ++ [f] ∧ isFL (l ++ [f]) = true := by
  obtain ⟨h1, h2, _⟩ := addF_cases hn
  rw [ins_end hi] at h1 h2
  exact ⟨h1, h2⟩
theorem rem_end {l : List Factor} {f : Factor} (hi : ∀ g ∈ l, g.id < f.id) (hl : isFL (l ++ [f]) = true) : removeF (l ++ [f]) f.id = (l, true) := by
  unfold removeF
  have hh : hasId (l ++ [f]) f.id = true := hasId_iff.2 ⟨f, by simp, rfl⟩
  rw [hl, hh, if_pos (by rfl), List.filter_append]
  have e : l.filter (fun g => g.id != f.id) = l := by
    rw [List.filter_eq_self]
    intro g hg
    have := hi g hg
    simp; omega
  rw [e]; simp
theorem ascL_ids : ∀ (l : List Factor) (i : Int) (p : Option Int), (∀ f ∈ l, vldFactor f = true) → (∀ (k : Nat) (f : Factor), l[k]? = some f → f.id = i + (k : Int)) → (∀ q, p = some q → q < i) → ascL l p = true
  | [], _, _, _, _, _ => rfl
  | f :: l, i, p, hv, hi, hp => by
    have h0 := hi 0 f rfl
    have ih := ascL_ids l (i + 1) (some f.id) (fun g hg => hv g (by simp [hg])) (fun k g hg => by
      have := hi (k + 1) g (by simpa using hg)
      push_cast at this
      omega) (fun q hq => by
      injection hq with hq
      omega)
    cases p with
    | none => simp only [ascL, hv f (by simp), ih, Bool.and_true]
    | some q =>
      have := hp q rfl
      have hd : decide (q < f.id) = true := decide_eq_true (by omega)
      simp only [ascL, hv f (by simp), ih, hd, Bool.and_true]
theorem GOK.fl {l : List Factor} (h : GOK l) (h8 : l.length ≤ 8) : isFL l = true := by
  unfold isFL
  have h1 := FOK.names h.2.1
  have h2 := ascL_ids l 1 none (fun f hf => (h.2.1 f hf).1) (fun k f hf => by have := h.2.2 k f hf; omega) (by simp)
  simp only [Bool.and_eq_true, decide_eq_true_eq]
  exact ⟨by omega, h2, by omega⟩
end Go.Proofs.YtebcdjpddoaajaaDoor

/- The draw of one factor: MakeFactor. -/
namespace Go.Proofs.YtebcdjpddoaajaaDoor
open Go.RowKit
set_option linter.unusedVariables false
set_option linter.unusedSimpArgs false
set_option maxHeartbeats 1000000
set_option maxRecDepth 100000
theorem MakeFactor_c {W w : World} {A : Option Addr} {n c : Nat} (hB : Below W.heap.size W w) (hy : Bytes W A n) (hn : n ≤ 1048576) (id : Int) (hid : inR id 0 99999 = true) :
    Calls Tryd.prog 11 #[.slice A n c, .int .i64 id] w fun e w' => ∃ k fr tt t x y wt, e = .returned (vFactor id k fr tt t x y wt) ∧ vldFactor ⟨id, k, fr, tt, ⟨t, x, y⟩, wt⟩ = true ∧ Below w.heap.size w w' := by
  have HB := Lib.hid hB
  have hy' := Lib.hid hy
  have HB1 := Lib.hid (bAlloc hB (.cells #[.int .i64 0, .int .i64 0, .string ⟨#[]⟩, .string ⟨#[]⟩, .int .i64 0, .int .i64 0, .int .i64 0, .int .i64 0] 28))
  clear hB hy
  go_enter Tryd.func11, Tryd.ntmps11
  go_wp2_with fail
  refine Calls.mono (l32New_c (c := c) HB1.out hy'.out hn 6 (by omega)) ?_
  rintro e w1 ⟨b, rfl, hb, hc1, hb1⟩
  have hb' : w.heap.size + 1 ≤ b := by simpa using hb
  have B1 : Below w.heap.size w w1 := bTrans (bAlloc (Below.refl _ _) _) hb1
  have r0 : w1.cell? ⟨w.heap.size, 0, none⟩ = some (.int .i64 0) := bCell hb1 (cells_b rfl)
  have r1 : w1.cell? ⟨w.heap.size, 1, none⟩ = some (.int .i64 0) := bCell hb1 (cells_b rfl)
  have r2 : w1.cell? ⟨w.heap.size, 2, none⟩ = some (.string ⟨#[]⟩) := bCell hb1 (cells_b rfl)
  have r3 : w1.cell? ⟨w.heap.size, 3, none⟩ = some (.string ⟨#[]⟩) := bCell hb1 (cells_b rfl)
  have r4 : w1.cell? ⟨w.heap.size, 4, none⟩ = some (.int .i64 0) := bCell hb1 (cells_b rfl)
  have r5 : w1.cell? ⟨w.heap.size, 5, none⟩ = some (.int .i64 0) := bCell hb1 (cells_b rfl)
  have r6 : w1.cell? ⟨w.heap.size, 6, none⟩ = some (.int .i64 0) := bCell hb1 (cells_b rfl)
  have r7 : w1.cell? ⟨w.heap.size, 7, none⟩ = some (.int .i64 0) := bCell hb1 (cells_b rfl)
  have rf : ∀ o, w1.frozen? ⟨w.heap.size, o, none⟩ = false := fun o => (bBoxF hb1 w.heap.size (by simp) o).trans (frozen_a _ _ _ _)
  have HC1 := Lib.hid hc1
  clear hc1 hb1
  go_wp2_with fail
  refine Calls.mono (l16Draw_c hy'.out hn HC1.out id hid) ?_
  rintro e w2 ⟨k, fr, tt, t, x, y, wt, rfl, hv, hc2, hu2⟩
  have z1 : w.heap.size < w1.heap.size := cell_lt r0
  have s0 := (uBox hu2 w.heap.size z1 (by simp; omega) 0).trans r0
  have s1 := (uBox hu2 w.heap.size z1 (by simp; omega) 1).trans r1
  have s2 := (uBox hu2 w.heap.size z1 (by simp; omega) 2).trans r2
  have s3 := (uBox hu2 w.heap.size z1 (by simp; omega) 3).trans r3
  have s4 := (uBox hu2 w.heap.size z1 (by simp; omega) 4).trans r4
  have s5 := (uBox hu2 w.heap.size z1 (by simp; omega) 5).trans r5
  have s6 := (uBox hu2 w.heap.size z1 (by simp; omega) 6).trans r6
  have s7 := (uBox hu2 w.heap.size z1 (by simp; omega) 7).trans r7
  have sf : ∀ o, w2.frozen? ⟨w.heap.size, o, none⟩ = false := fun o => (uBoxF hu2 w.heap.size z1 (by simp; omega) o).trans (rf o)
  have sz : w.heap.size < w2.heap.size := cell_lt s0
  have HV := Lib.hid hv
  have B2 := bUpd1 (W := w) B1 hu2 (by omega)
  clear hv hc2 hu2 HC1 r0 r1 r2 r3 r4 r5 r6 r7 rf B1
  go_wp2_with fail
  refine bodyPost_ret (v := vFactor id k fr tt t x y wt) (by simp [*, results, Tryd.results11, go_sem]) rfl ⟨k, fr, tt, t, x, y, wt, rfl, HV.out, ?_⟩
  exact bSet (bSet (bSet (bSet (bSet (bSet (bSet (bSet B2 (Nat.le_refl _) _) (Nat.le_refl _) _) (Nat.le_refl _) _) (Nat.le_refl _) _) (Nat.le_refl _) _) (Nat.le_refl _) _) (Nat.le_refl _) _) (Nat.le_refl _) _
end Go.Proofs.YtebcdjpddoaajaaDoor
