/- The draws of a shared list: l28List, MakeShared; of a robot's list: MakeFactors; of one factor: MakeFactor. -/
import Derived.Test.YtgpmmmfnbphgdaaDraw6
import Derived.Test.YtgpmmmfnbphgdaaOnceD
namespace Go.Proofs.Ytgpmmmfnbphgdaa
open Go.RowKit
set_option linter.unusedVariables false
set_option linter.unusedSimpArgs false
set_option maxHeartbeats 1000000
set_option maxRecDepth 100000
def nm7 : List (List UInt8) := [(pnm 0).toList, (pnm 1).toList, (pnm 2).toList, (pnm 3).toList, (pnm 4).toList, (mnm 0).toList, (mnm 1).toList]
theorem nmOK.in7 {s : ByteArray} (h : nmOK s) : s.toList = [] ∨ s.toList ∈ nm7 := by
  rcases h with rfl | ⟨j, hj, rfl⟩ | ⟨j, hj, rfl⟩
  · exact .inl (by decide +kernel)
  · right
    match j, hj with
    | 0, _ | 1, _ | 2, _ | 3, _ | 4, _ => simp [nm7]
    | j + 5, hj => omega
  · right
    match j, hj with
    | 0, _ | 1, _ => simp [nm7]
    | j + 2, hj => omega
theorem FOK.names {l : List Factor} (h : ∀ f ∈ l, FOK f) : (namesOf l).length ≤ 7 := names_in (S := nm7) fun f hf => ⟨(h f hf).2.1.in7, (h f hf).2.2.in7⟩
/-- the state of l28List behind i rounds -/
structure SInv (r : Int) (i : Nat) (l : List Factor) : Prop where
  len : l.length = i
  fok : ∀ f ∈ l, FOK f
  lt : ∀ f ∈ l, f.id < 1000 * r + i
  asc : ascL l none = true
theorem SInv.push {r r' : Int} {i : Nat} {l : List Factor} {f : Factor} (h : SInv r i l) (hf : FOK f) (h0 : 0 ≤ r) (hr : r ≤ r') (h2 : r' ≤ 2) (hi : i ≤ 100) : SInv r' (i + 1) (l ++ [⟨1000 * r' + i, f.kind, f.frm, f.to, f.pose, f.weight⟩]) := by
  have hv := vld_setid hf.1 (x := 1000 * r' + i) ⟨by omega, by omega⟩
  refine ⟨by simp [h.len], fun g hg => ?_, fun g hg => ?_, ascL_snoc h.asc hv (fun g hg => ?_) rfl⟩
  · rcases List.mem_append.1 hg with hg | hg
    · exact h.fok g hg
    · simp at hg; subst hg; exact ⟨hv, hf.2⟩
  · rcases List.mem_append.1 hg with hg | hg
    · have := h.lt g hg; push_cast; omega
    · simp at hg; subst hg; simp; omega
  · have := h.lt g hg; show g.id < 1000 * r' + i; omega
theorem SInv.fl {r : Int} {i : Nat} {l : List Factor} (h : SInv r i l) (hi : i ≤ 40) : isFL l = true := by
  unfold isFL
  have h1 := FOK.names h.fok
  simp only [Bool.and_eq_true, decide_eq_true_eq]
  exact ⟨by rw [h.len]; exact hi, h.asc, by omega⟩
/-- behind the append of a round of l28List -/
theorem l28_push {W w w2 w5 : World} {b : Nat} {A : Option Addr} {n c X : Nat} {A' VA A5 : Option Addr} {k c' vn vc c5 : Nat} {css ces : List (List Value)} {cs5 : List (List Value)} {u : Value} {o : Obj} (hlt : b < w.heap.size) (HWW : Below W.heap.size W w) (HbW : W.heap.size ≤ b)
    (hc : Cur W w2 b A n c) (hu : Upd [b] w w2) (ho : Own w2 w.heap.size 45 8 A' k c' css) (hov : Own w2 w.heap.size 45 8 VA vn vc ces) (hd : ∀ q, ob VA = some q → ¬ ob A' = some q)
    (hX : w.heap.size ≤ X) (hXV : ¬ ob VA = some X) (hg : ((w2.setCell ⟨X, 0, none⟩ u).alloc o).grownBy w5 (ob A')) (ho5 : Own w5 w.heap.size 45 8 A5 (k + 1) c5 cs5) (hat : ob A5 = ob A' ∨ ob A5 = some ((w2.setCell ⟨X, 0, none⟩ u).alloc o).heap.size) :
    Own w5 w.heap.size 45 8 VA vn vc ces ∧ (∀ q, ob VA = some q → ¬ ob A5 = some q) ∧ Cur W w5 b A n c ∧ Upd [b] w w5 := by
  have hs : Upd [X] w2 (w2.setCell ⟨X, 0, none⟩ u) := (Upd.refl _ _).set_in (by simp) _
  have hov2 := hov.upd hs (fun q hq hm => by simp only [List.mem_singleton] at hm; subst hm; exact hXV (mem_obl.1 hq))
  have hu2 := (hu.set_new (p := ⟨X, 0, none⟩) hX u).alloc_ o
  have hc2 := (hc.set_ (p := ⟨X, 0, none⟩) (Nat.lt_of_lt_of_le hlt hX) u).alloc_ o
  have hu5 : Upd [b] w w5 := Upd.grown_hi2 hu2 hg (fun q hq => (ho.lt q hq).1)
  refine ⟨(hov2.alloc_ o).upd (Upd.of_row hg) (fun q hq hm => hd q (mem_obl.1 hq) (mem_obl.1 hm)), fun q hq e => ?_, hc2.keep (bUpd1 (w := w) HWW hu5 HbW) (hg.block b (by have := hc.lt; simp; omega) (fun e => by have := (ho.lt b e.symm).1; omega)), hu5⟩
  rcases hat with h1 | h1
  · exact hd q hq (h1 ▸ e)
  · rw [h1] at e
    have h2 := Option.some.inj e
    have h3 := (hov.lt q hq).2
    simp at h2; omega
theorem l28List_c {W w : World} {b : Nat} {A : Option Addr} {n c : Nat} (hy : Bytes W A n) (hn : n ≤ 1048576) (h : Cur W w b A n c) :
    Calls Try.prog 11 #[.pointer (some ⟨b, 0, none⟩)] w fun e w' => ∃ (v : Sv) (l : List Factor), e = .returned (.slice v.A v.n v.c) ∧ isFL l = true ∧ 0 < l.length ∧ Own w' w.heap.size 45 8 v.A v.n v.c (l.map Factor.cells) ∧ Cur W w' b A n c ∧ Upd [b] w w' := by
  obtain ⟨i0, hi, hz0, hz1, hz2⟩ := info_parts info_Factor
  have hlt := h.lt
  have HWW := Lib.hid h.hB
  have HbW := Lib.hid h.hb
  have hy' := Lib.hid hy
  have HC := Lib.hid (h.alloc_ (.cells #[] 45))
  clear h hy
  go_enter Try.func11, Try.ntmps11
  go_wp2_with fail
  refine Calls.mono (l16List_c hy'.out hn HC.out) ?_
  rintro e w1 ⟨v, l0, rfl, hlen, hfok, hov, hc1, hu1⟩
  have hpos : 0 < l0.length := hfok.1
  have hfok := hfok.2.1
  have U1 : Upd [b] w w1 := (Upd.of_below (bAlloc (Below.refl _ _) _)).trans hu1
  have ho1 : Own w1 w.heap.size 45 8 (some ⟨w.heap.size, 0, none⟩) 0 0 [] := (Own.made0 w _ 8 (Nat.le_refl _)).upd hu1 (fun k hk hm => by simp [obl, ob] at hk hm; omega)
  have hvlo : Hid (∀ q, ob v.A = some q → w.heap.size + 1 ≤ q) := fun q hq => by have := (hov.lt q hq).1; simp at this; omega
  have hov1 : Own w1 w.heap.size 45 8 v.A v.n v.c (l0.map Factor.cells) := hov.rebase (by simp)
  have HLV : Hid (l0.length = v.n) := by have := hov.len; rw [List.length_map] at this; exact this
  have hvn : v.n ≤ 8 := by have := HLV.out; omega
  have HFOK := Lib.hid hfok
  obtain ⟨VA, vn, vc⟩ := v
  dsimp only at *
  have hd0 : ∀ q, ob VA = some q → ¬ ob (some (⟨w.heap.size, 0, none⟩ : Addr)) = some q := fun q hq e => by have h1 := hvlo.out q hq; simp [ob] at e; omega
  have HD0 := Lib.hid hd0
  have HC1 := Lib.hid hc1
  clear HC hov hfok hc1 hu1 hd0
  go_wp2_with fail
  go_loopw [3, 4, 11] (fun s r i wr => ∃ (k : Nat) (rr : Int) (A' : Option Addr) (c' : Nat) (l : List Factor), k ≤ vn ∧ s = .slice A' k c' ∧ r = .int .i64 rr ∧ i = .int .i64 (k : Int) ∧ 0 ≤ rr ∧ rr ≤ 2 ∧ SInv rr k l ∧ Own wr w.heap.size 45 8 A' k c' (l.map Factor.cells) ∧ Own wr w.heap.size 45 8 VA vn vc (l0.map Factor.cells) ∧ (∀ q, ob VA = some q → ¬ ob A' = some q) ∧ Cur W wr b A n c ∧ Upd [b] w wr) (fun _ _ i _ => vn - (intOf i).toNat)
  case atStart => exact ⟨0, 0, _, 0, [], by omega, rfl, rfl, rfl, by omega, by omega, ⟨rfl, by simp, by simp, rfl⟩, by simpa using ho1, hov1, HD0.out, HC1.out, U1⟩
  case round =>
    obtain ⟨k, rr, A', c', l, hk, rfl, rfl, rfl, hr0, hr2, hsi, ho, hov, hd, hc, hu⟩ := hrel
    have HC2 := Lib.hid hc
    have SI := Lib.hid hsi
    have HD := Lib.hid hd
    have HO := Lib.hid ho
    have HOV := Lib.hid hov
    have HU := Lib.hid hu
    clear hc hsi hd ho hov hu HC1 ho1 hov1 U1
    by_cases hltk : k < vn
    · obtain ⟨f, g, off, hf, hA, g0, g1, g2, g3, g4, g5, g6, g7⟩ := RowF.at_ HOV.out.row hltk
      have hff := HFOK.out f (List.mem_of_getElem? hf.out)
      have HFF := Lib.hid hff
      have hx0 : (0 : Int) ≤ (k : Int) := by omega
      have hx1 : (k : Int) < (vn : Int) := by omega
      have HC3 := Lib.hid (HC2.out.alloc_ (.cells f.cells.toArray 45))
      have hsz := HU.out.size
      subst hA
      clear hff hf
      go_wp2_with fail
      refine Calls.mono (l01Once_c hy'.out hn HC3.out 3 (by omega) (by omega)) ?_
      rintro e w2 ⟨o, rfl, hc2, hu2⟩
      have U2 := (HU.out.alloc_ (.cells f.cells.toArray 45)).trans hu2
      have HO2 := Lib.hid ((HO.out.alloc_ (.cells f.cells.toArray 45)).upd hu2 (fun q hq hm => by have h1 := (HO.out.lt q (mem_obl.1 hq)).1; simp at hm; omega))
      have HOV2 := Lib.hid ((HOV.out.alloc_ (.cells f.cells.toArray 45)).upd hu2 (fun q hq hm => by have h1 := (HOV.out.lt q (mem_obl.1 hq)).1; simp at hm; omega))
      have bx := Own.box (t := 45) (cs := f.cells) (heap_alloc_new wr _) rfl
      have bx2 := (bx.upd hu2 (fun q hq hm => by simp [obl, ob] at hq hm; omega))
      have q0 := bx2.bcell 0 _ rfl; have q1 := bx2.bcell 1 _ rfl; have q2 := bx2.bcell 2 _ rfl; have q3 := bx2.bcell 3 _ rfl
      have q4 := bx2.bcell 4 _ rfl; have q5 := bx2.bcell 5 _ rfl; have q6 := bx2.bcell 6 _ rfl; have q7 := bx2.bcell 7 _ rfl
      have qf : ∀ o, w2.frozen? ⟨wr.heap.size, o, none⟩ = false := fun o => (uBoxF hu2 wr.heap.size (by simp) (by simp; omega) o).trans (frozen_a _ _ _ o)
      have qz : wr.heap.size < w2.heap.size := by have := hu2.size; simp at this; omega
      have HA' : Hid (∀ q, ob A' = some q → q < wr.heap.size) := fun q hq => (HO.out.lt q hq).2
      have HXV : ¬ ob (some (⟨g, off, none⟩ : Addr)) = some wr.heap.size := fun e => by have := (HOV.out.lt _ e).2; omega
      have HC4 := Lib.hid hc2
      have U2' := Lib.hid U2
      have hw1 : ∀ z : Int, 0 ≤ z → z ≤ 2 → IntKind.i64.wrap (1000 * z) = 1000 * z := fun z h1 h2 => by rw [IntKind.wrap_i64]; omega
      clear hc2 hu2 HC3 bx bx2 U2 HC2 HU HO HOV g0 g1 g2 g3 g4 g5 g6 g7
      generalize wr.heap.size = X at *
      have hkk : (k : Int) ≤ 8 := by omega
      cases o with
      | true =>
        by_cases hr1 : rr < 2
        · have hra : IntKind.i64.wrap (rr + 1) = rr + 1 := by rw [IntKind.wrap_i64]; omega
          have HOs := Lib.hid (HO2.out.upd ((Upd.refl [X] w2).set_in (p := ⟨X, 0, none⟩) (by simp) (.int .i64 (1000 * (rr + 1) + (k : Int)))) (fun q hq hm => by simp only [List.mem_singleton] at hm; subst hm; have := HA'.out q (mem_obl.1 hq); omega))
          have hw3 := hw1 ((rr + 1)) (by omega) (by omega)
          have hw4 : IntKind.i64.wrap (1000 * (rr + 1) + (k : Int)) = 1000 * (rr + 1) + (k : Int) := by rw [IntKind.wrap_i64]; omega
          clear hw1
          go_wp2_with (at_builtin; refine wpList_append rfl (.tmp 29) (.tmp 31) 23 rfl w.heap.size 45 8 80 i0 _ Try.underlying23 hi hz0 hz1 hz2 rfl (by omega) A' k c' _ rfl (HOs.out.alloc_ _) _ 1 1 [Factor.cells ⟨1000 * (rr + 1) + (k : Int), f.kind, f.frm, f.to, f.pose, f.weight⟩] rfl (Row.new1' _ _ _ 8 _ (by simp)) (by simp [Factor.cells]) (by simp [Factor.cells, Value.oneCell']) (by simp only [maxLen]; omega) (by omega) (by simp; omega) ?_; intro A5 c5 w5 ho5 hg5 hat5)
          obtain ⟨p1, p2, p3, p4⟩ := l28_push hlt HWW.out HbW.out HC4.out U2'.out HO2.out HOV2.out HD.out hsz HXV hg5 ho5 hat5
          exact ⟨⟨k + 1, (rr + 1), A5, c5, l ++ [⟨1000 * (rr + 1) + (k : Int), f.kind, f.frm, f.to, f.pose, f.weight⟩], by omega, rfl, by simp, by simp, by omega, by omega, SI.out.push HFF.out hr0 (by omega) (by omega) (by omega), by simpa using ho5, p1, p2, p3, p4⟩, by simp only [intOf]; omega⟩
        · have HOs := Lib.hid (HO2.out.upd ((Upd.refl [X] w2).set_in (p := ⟨X, 0, none⟩) (by simp) (.int .i64 (1000 * rr + (k : Int)))) (fun q hq hm => by simp only [List.mem_singleton] at hm; subst hm; have := HA'.out q (mem_obl.1 hq); omega))
          have hw3 := hw1 (rr) (by omega) (by omega)
          have hw4 : IntKind.i64.wrap (1000 * rr + (k : Int)) = 1000 * rr + (k : Int) := by rw [IntKind.wrap_i64]; omega
          clear hw1
          go_wp2_with (at_builtin; refine wpList_append rfl (.tmp 29) (.tmp 31) 23 rfl w.heap.size 45 8 80 i0 _ Try.underlying23 hi hz0 hz1 hz2 rfl (by omega) A' k c' _ rfl (HOs.out.alloc_ _) _ 1 1 [Factor.cells ⟨1000 * rr + (k : Int), f.kind, f.frm, f.to, f.pose, f.weight⟩] rfl (Row.new1' _ _ _ 8 _ (by simp)) (by simp [Factor.cells]) (by simp [Factor.cells, Value.oneCell']) (by simp only [maxLen]; omega) (by omega) (by simp; omega) ?_; intro A5 c5 w5 ho5 hg5 hat5)
          obtain ⟨p1, p2, p3, p4⟩ := l28_push hlt HWW.out HbW.out HC4.out U2'.out HO2.out HOV2.out HD.out hsz HXV hg5 ho5 hat5
          exact ⟨⟨k + 1, rr, A5, c5, l ++ [⟨1000 * rr + (k : Int), f.kind, f.frm, f.to, f.pose, f.weight⟩], by omega, rfl, rfl, by simp, by omega, by omega, SI.out.push HFF.out hr0 (by omega) (by omega) (by omega), by simpa using ho5, p1, p2, p3, p4⟩, by simp only [intOf]; omega⟩
      | false =>
        have HOs := Lib.hid (HO2.out.upd ((Upd.refl [X] w2).set_in (p := ⟨X, 0, none⟩) (by simp) (.int .i64 (1000 * rr + (k : Int)))) (fun q hq hm => by simp only [List.mem_singleton] at hm; subst hm; have := HA'.out q (mem_obl.1 hq); omega))
        have hw3 := hw1 (rr) (by omega) (by omega)
        have hw4 : IntKind.i64.wrap (1000 * rr + (k : Int)) = 1000 * rr + (k : Int) := by rw [IntKind.wrap_i64]; omega
        clear hw1
        go_wp2_with (at_builtin; refine wpList_append rfl (.tmp 29) (.tmp 31) 23 rfl w.heap.size 45 8 80 i0 _ Try.underlying23 hi hz0 hz1 hz2 rfl (by omega) A' k c' _ rfl (HOs.out.alloc_ _) _ 1 1 [Factor.cells ⟨1000 * rr + (k : Int), f.kind, f.frm, f.to, f.pose, f.weight⟩] rfl (Row.new1' _ _ _ 8 _ (by simp)) (by simp [Factor.cells]) (by simp [Factor.cells, Value.oneCell']) (by simp only [maxLen]; omega) (by omega) (by simp; omega) ?_; intro A5 c5 w5 ho5 hg5 hat5)
        obtain ⟨p1, p2, p3, p4⟩ := l28_push hlt HWW.out HbW.out HC4.out U2'.out HO2.out HOV2.out HD.out hsz HXV hg5 ho5 hat5
        exact ⟨⟨k + 1, rr, A5, c5, l ++ [⟨1000 * rr + (k : Int), f.kind, f.frm, f.to, f.pose, f.weight⟩], by omega, rfl, rfl, by simp, by omega, by omega, SI.out.push HFF.out hr0 (by omega) (by omega) (by omega), by simpa using ho5, p1, p2, p3, p4⟩, by simp only [intOf]; omega⟩
    · obtain rfl : k = vn := by omega
      have hkn : ¬ (k : Int) < (k : Int) := by omega
      go_wp2_with fail
      refine bodyPost_ret (v := .slice A' k c') (by simp [*, results, Try.results11, go_sem]) rfl ?_
      have hle := SI.out.len
      exact ⟨⟨A', k, c'⟩, rfl, l, SI.out.fl (by omega), by have := HLV.out; omega, HO.out, HC2.out, HU.out⟩
theorem MakeShared_c {W w : World} {A : Option Addr} {n c : Nat} (hB : Below W.heap.size W w) (hy : Bytes W A n) (hn : n ≤ 1048576) :
    Calls Try.prog 4 #[.slice A n c] w fun e w' => ∃ (v : Sv) (l : List Factor), e = .returned (.slice v.A v.n v.c) ∧ isFL l = true ∧ 0 < l.length ∧ OwF w' v l ∧ Fresh w.heap.size w' (fpF v) ∧ Below w.heap.size w w' := by
  have HB := Lib.hid hB
  have hy' := Lib.hid hy
  clear hB hy
  go_enter Try.func4, Try.ntmps4
  go_wp2_with fail
  refine Calls.mono (l01New_c (c := c) HB.out hy'.out hn) ?_
  rintro e w1 ⟨b, rfl, hb, hc1, hb1⟩
  have HC := Lib.hid hc1
  have hs := hb1.size
  have B1 := Lib.hid hb1
  clear hc1 hb1
  go_wp2_with fail
  refine Calls.mono (l28List_c hy'.out hn HC.out) ?_
  rintro e w2 ⟨v, l, rfl, hfl, hpos, ho, hc2, hu2⟩
  have FL := Lib.hid hfl
  have PO := Lib.hid hpos
  have B2 := Lib.hid (bUpd1 (W := w) B1.out hu2 hb)
  clear hfl hpos hc2 hu2
  go_wp2_with fail
  go_ret
  exact ⟨v, l, rfl, FL.out, PO.out, ho.zero, Fresh.rebase (Fresh.obl_ ho) hs, B2.out⟩
end Go.Proofs.Ytgpmmmfnbphgdaa
