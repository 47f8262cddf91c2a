/- The walk of the law on a channel. -/
import Derived.Test.YtgpmmmfnbphgdaaDoorChnF
import Derived.Test.YtgpmmmfnbphgdaaDoorChnK
import Derived.Test.YtgpmmmfnbphgdaaDoorChnJ
import Derived.Test.YtgpmmmfnbphgdaaDoorDrawM
namespace Go.Proofs.YtgpmmmfnbphgdaaDoor
open Go.RowKit
set_option linter.unusedVariables false
set_option linter.unusedSimpArgs false
set_option maxHeartbeats 4000000
set_option maxRecDepth 100000
theorem AckT.netAll : ∀ (l : List Packet) {c : Chan}, AckT c → AckT (netAll l c)
  | [], _, h => h
  | p :: l, c, h => AckT.netAll l (AckT.dlv (c := { c with net := l }) h p)
theorem AckT.nil {c : Chan} (h : c.acks = []) : AckT c := by intro p hp; rw [h] at hp; cases hp
theorem FI.calmFI {want got : List ByteArray} {m : Nat} {c : Chan} (h : FI want got m c) : FI want got m (calmC c) := by
  have e : calmC c = calmN 9 c := by unfold calmC; rw [if_pos h.chan]
  rw [e]
  have hn : ∀ (n : Nat) (c : Chan), c.net = [] → c.acks = [] → (calmN n c).acks = [] := by
    intro n
    induction n with
    | zero => exact fun c h1 h2 => h2
    | succ n ih => exact fun c _ _ => ih _ (calm1_empty c).1 (calm1_empty c).2
  exact ⟨h.inv.calmN 9, AckT.nil (hn 8 _ (calm1_empty c).1 (calm1_empty c).2), h.sm, h.len, h.m12⟩
/-- the state of FnChannel: the channel in its box X, the two lists -/
structure FS (W : World) (X : Nat) (v : CV) (c : Chan) (wA : Option Addr) (wc : Nat) (want : List ByteArray) (gA : Option Addr) (gc : Nat) (got : List ByteArray) (wr : World) : Prop where
  bl : Below W.heap.size W wr
  bx : Own wr 0 26 6 (some ⟨X, 0, none⟩) 1 1 [cChan v c.base c.expected]
  lo : W.heap.size ≤ X
  ow : OwC wr v c
  fr : Fresh W.heap.size wr (fpC v)
  xv : X ∉ fpC v
  wn : Own wr W.heap.size 9 1 wA want.length wc (want.map strCells)
  gt : Own wr W.heap.size 9 1 gA got.length gc (got.map strCells)
  wx : ¬ ob wA = some X
  gx : ¬ ob gA = some X
  wv : ∀ q, ob wA = some q → q ∉ fpC v
  gv : ∀ q, ob gA = some q → q ∉ fpC v
  wg : ∀ q, ob wA = some q → ¬ ob gA = some q
section
variable {W wr w' : World} {X : Nat} {v : CV} {c : Chan} {wA : Option Addr} {wc : Nat} {want : List ByteArray} {gA : Option Addr} {gc : Nat} {got : List ByteArray}
theorem FS.below (h : FS W X v c wA wc want gA gc got wr) (hb : Below wr.heap.size wr w') : FS W X v c wA wc want gA gc got w' :=
  ⟨bTrans h.bl hb, h.bx.below hb, h.lo, h.ow.below hb, h.fr.grow hb.size, h.xv, h.wn.below hb, h.gt.below hb, h.wx, h.gx, h.wv, h.gv, h.wg⟩
theorem FS.pushW (h : FS W X v c wA wc want gA gc got wr) {A' : Option Addr} {c' : Nat} {s : ByteArray} {o : Obj} (hg : (wr.alloc o).grownBy w' (ob wA)) (ho : Own w' W.heap.size 9 1 A' (want.length + 1) c' (want.map strCells ++ [[.string s]])) (hat : ob A' = ob wA ∨ ob A' = some (wr.alloc o).heap.size) :
    FS W X v c A' c' (want ++ [s]) gA gc got w' := by
  have ha := h.below (bAlloc (Below.refl _ _) o)
  have hu := Upd.of_row hg
  have hX := h.bx.lt1
  have hn : ∀ q, q < wr.heap.size → ¬ ob wA = some q → ¬ ob A' = some q := fun q hq h1 h2 => by
    rcases hat with h3 | h3
    · exact h1 (h3 ▸ h2)
    · rw [h3] at h2; have := Option.some.inj h2; simp at this; omega
  have hat2 : ∀ q, ob A' = some q → ob wA = some q ∨ wr.heap.size < q := fun q hq => by
    rcases hat with h3 | h3
    · exact .inl (h3 ▸ hq)
    · right; rw [h3] at hq; have := Option.some.inj hq; simp at this; omega
  refine ⟨bGrown ha.bl hg (fun q hq => (ha.wn.lt q hq).1), ha.bx.upd hu (fun q hq hm => by simp [obl, ob] at hq; exact h.wx (hq ▸ mem_obl.1 hm)), h.lo, ha.ow.upd hu (fun q hq hm => h.wv q (mem_obl.1 hm) hq), ha.fr.grow hg.size, h.xv, ?_, ha.gt.upd hu (fun q hq hm => h.wg q (mem_obl.1 hm) (mem_obl.1 hq)), hn X hX h.wx, h.gx, fun q hq => (hat2 q hq).elim (h.wv q) (fun e hm => by have := h.fr.hi q hm; omega), h.gv, fun q hq => (hat2 q hq).elim (h.wg q) (fun e hm => by have := (h.gt.lt q hm).2; omega)⟩
  rw [List.length_append, List.map_append]; exact ho
theorem FS.pushG (h : FS W X v c wA wc want gA gc got wr) {A' : Option Addr} {c' m : Nat} {l : List ByteArray} (hg : wr.grownBy w' (ob gA)) (ho : Own w' W.heap.size 9 1 A' (got.length + m) c' (got.map strCells ++ l.map strCells)) (hl : l.length = m) (hat : ob A' = ob gA ∨ ob A' = some wr.heap.size) :
    FS W X v c wA wc want A' c' (got ++ l) w' := by
  have hu := Upd.of_row hg
  have hX := h.bx.lt1
  have hat2 : ∀ q, ob A' = some q → ob gA = some q ∨ wr.heap.size ≤ q := fun q hq => by
    rcases hat with h3 | h3
    · exact .inl (h3 ▸ hq)
    · right; rw [h3] at hq; have := Option.some.inj hq; omega
  refine ⟨bGrown h.bl hg (fun q hq => (h.gt.lt q hq).1), h.bx.upd hu (fun q hq hm => by simp [obl, ob] at hq; exact h.gx (hq ▸ mem_obl.1 hm)), h.lo, h.ow.upd hu (fun q hq hm => h.gv q (mem_obl.1 hm) hq), h.fr.grow hg.size, h.xv, h.wn.upd hu (fun q hq hm => h.wg q (mem_obl.1 hq) (mem_obl.1 hm)), ?_, h.wx, fun e => (hat2 X e).elim h.gx (fun h9 => by omega), h.wv, fun q hq => (hat2 q hq).elim (h.gv q) (fun e hm => by have := h.fr.hi q hm; omega), fun q hq hm => (hat2 q hm).elim (h.wg q hq) (fun e => by have := (h.wn.lt q hq).2; omega)⟩
  rw [List.length_append, List.map_append, hl]; exact ho
theorem FS.newC (h : FS W X v c wA wc want gA gc got wr) {v' : CV} {c' : Chan} {w5 : World} (hb : Below wr.heap.size wr w') (ho : OwC w' v' c') (hf : Fresh wr.heap.size w' (fpC v')) (hx : Own w5 0 26 6 (some ⟨X, 0, none⟩) 1 1 [cChan v' c'.base c'.expected]) (hg : w'.grownBy w5 (some X)) :
    FS W X v' c' wA wc want gA gc got w5 := by
  have ha := h.below hb
  have hu := upd1 hg
  have hX := h.bx.lt1
  have hs := h.bl.size
  have hxv : X ∉ fpC v' := fun hm => by have := hf.lo X hm; omega
  refine ⟨bUpd ha.bl hu (fun q hq => by simp only [List.mem_singleton] at hq; have := h.lo; omega), hx, h.lo, ho.upd hu (fun q hq hm => by simp only [List.mem_singleton] at hm; exact hxv (hm ▸ hq)), (hf.rebase hs).grow hu.size, hxv, ha.wn.upd hu (fun q hq hm => by simp only [List.mem_singleton] at hm; exact h.wx (hm ▸ mem_obl.1 hq)), ha.gt.upd hu (fun q hq hm => by simp only [List.mem_singleton] at hm; exact h.gx (hm ▸ mem_obl.1 hq)), h.wx, h.gx, fun q hq hm => by have := hf.lo q hm; have := (h.wn.lt q hq).2; omega, fun q hq hm => by have := hf.lo q hm; have := (h.gt.lt q hq).2; omega, h.wg⟩
theorem FS.at6 (h : FS W X v c wA wc want gA gc got wr) : wr.cell? ⟨X, 0, none⟩ = some (.slice v.q.A v.q.n v.q.c) ∧ wr.cell? ⟨X, 1, none⟩ = some (.int .i64 c.base) ∧ wr.cell? ⟨X, 2, none⟩ = some (.int .i64 c.expected) ∧ wr.cell? ⟨X, 3, none⟩ = some (.slice v.i.A v.i.n v.i.c) ∧ wr.cell? ⟨X, 4, none⟩ = some (.slice v.n.A v.n.n v.n.c) ∧ wr.cell? ⟨X, 5, none⟩ = some (.slice v.a.A v.a.n v.a.c) ∧ (∀ o, wr.frozen? ⟨X, o, none⟩ = false) ∧ X < wr.heap.size :=
  ⟨h.bx.bcell 0 _ rfl, h.bx.bcell 1 _ rfl, h.bx.bcell 2 _ rfl, h.bx.bcell 3 _ rfl, h.bx.bcell 4 _ rfl, h.bx.bcell 5 _ rfl, h.bx.frozen rfl, h.bx.lt1⟩
end
theorem w_FnChannel (W : World) (A : Option Addr) (n c : Nat) (hm : n ≤ maxLen) (hy : Bytes W A n) (hT : Tab W) :
    Calls Tryd.prog 3 #[.slice A n c] W fun e w' => e = rBool true ∧ Below W.heap.size W w' := by
  by_cases hn : n ≤ 1048576
  rotate_left
  · have hn' : (1048576 : Int) < (n : Int) := by omega
    go_enter Tryd.func3, Tryd.ntmps3
    go_wp2
    go_ret
    exact ⟨rfl, Below.refl _ _⟩
  have hn' : decide ((1048576 : Int) < (n : Int)) = false := by simp; omega
  have hy' := Lib.hid hy
  have HT := Lib.hid hT
  obtain ⟨i0, hii, hq0, hq1, hq2⟩ := info_parts info_String
  clear hy hm hT
  go_enter Tryd.func3, Tryd.ntmps3
  go_wp2_with fail
  go_loopw [4, 5, 6] (fun a g i wr => ∃ (k : Nat) (v : CV) (c : Chan) (wA : Option Addr) (wc : Nat) (want : List ByteArray) (gA : Option Addr) (gc : Nat) (got : List ByteArray), a = .slice wA want.length wc ∧ g = .slice gA got.length gc ∧ i = .int .i64 (k : Int) ∧ k ≤ 12 ∧ want.length ≤ k ∧ (k = 0 ∨ 0 < want.length) ∧ FI want got k c ∧ c.inbox = [] ∧ FS W W.heap.size v c wA wc want gA gc got wr) (fun _ _ i _ => 12 - (intOf i).toNat)
  case atStart =>
    refine ⟨0, ⟨nilSv, nilSv, nilSv, nilSv⟩, ⟨[], 0, 0, [], [], []⟩, _, 0, [], _, 0, [], rfl, rfl, rfl, by omega, by simp, .inl rfl, FI.start, rfl, ?_⟩
    refine ⟨bAlloc (bAlloc (bAlloc (Below.refl _ _) _) _) _, (Own.box (t := 26) (sz := 6) (cs := cChan ⟨nilSv, nilSv, nilSv, nilSv⟩ 0 0) (heap_alloc_new W _) rfl).below (bAlloc (bAlloc (Below.refl _ _) _) _), Nat.le_refl _, ⟨Own.nil_ _ _ _ _, Own.nil_ _ _ _ _, Own.nil_ _ _ _ _, Own.nil_ _ _ _ _⟩, ⟨by decide, fun q hq => by simp [fpC, nilSv, obl, ob] at hq, fun q hq => by simp [fpC, nilSv, obl, ob] at hq⟩, fun hq => by simp [fpC, nilSv, obl, ob] at hq, ?_, ?_, by first | (simp [ob]; done) | (simp [ob]; omega), by first | (simp [ob]; done) | (simp [ob]; omega), fun q hq hm => by simp [fpC, nilSv, obl, ob] at hm, fun q hq hm => by simp [fpC, nilSv, obl, ob] at hm, fun q h1 h2 => by simp [ob] at h1 h2; omega⟩
    · exact (Own.made' _ 9 1 (by simp) (by simp)).below (bAlloc (Below.refl _ _) _)
    · exact Own.made' _ 9 1 (by simp; omega) (by simp)
  case round =>
    obtain ⟨k, v, ch, wA, wc, want, gA, gc, got, rfl, rfl, rfl, hk, hwk, hw0, hfi, hin, hfs⟩ := hrel
    have FSW := Lib.hid hfs
    have FIW := Lib.hid hfi
    have HIN := Lib.hid hin
    obtain ⟨x0, x1, x2, x3, x4, x5, xf, xz⟩ := FSW.out.at6
    have hgl : Hid (got.length ≤ want.length) := by have h9 := FIW.out.inbox.2; show got.length ≤ want.length; omega
    clear hfs hfi hin
    by_cases hlt : k < 12
    · have hk12 : (k : Int) < 12 := by omega
      clear hw0
      go_wp2_with fail
      refine Calls.mono (impl_FormatInt_c (k : Int) _ (by omega) (by omega) (HT.out.below FSW.out.bl)) ?_
      rintro e w1 ⟨rfl, hb1⟩
      have hs21 := itoaB_size (n := (k : Int)) (by omega) (by omega)
      have FS1 := Lib.hid (FSW.out.below hb1)
      have hof := FIW.out.offer hs21 (by omega)
      have hst := impl_Offer_k v ch (itoaB (k : Int)) w1 FIW.out.bulk FIW.out.ok FS1.out.ow.rd (by omega)
      obtain ⟨D, bo, hD⟩ : ∃ D bo, offer ch (itoaB (k : Int)) = (D, bo) := ⟨_, _, rfl⟩
      rw [hD] at hof hst
      have HOF := Lib.hid hof
      have HST := Lib.hid hst
      clear hof hst hD hb1 hs21 x0 x1 x2 x3 x4 x5 xf xz
      obtain ⟨x0, x1, x2, x3, x4, x5, xf, xz⟩ := FS1.out.at6
      generalize itoaB (k : Int) = sx at *
      go_wp2_with fail
      refine Calls.mono HST.out ?_
      rintro e w2 ⟨v2, rfl, ho2, hf2, hb2⟩
      have hw1lt : Hid (∀ q, ob wA = some q → q < w1.heap.size) := fun q hq => (FS1.out.wn.lt q hq).2
      have FS2 := Lib.hid (FS1.out.below hb2)
      have OD := Lib.hid ho2
      have FD := Lib.hid hf2
      have hz2 : w1.heap.size ≤ w2.heap.size := hb2.size
      clear HST ho2 hf2 hb2 FS1 x0 x1 x2 x3 x4 x5 xf xz
      have hcase : ∃ (want' : List ByteArray), (bo = true ∧ want' = want ++ [sx] ∨ bo = false ∧ want' = want) ∧ FI want' got k D ∧ 0 < want'.length ∧ want'.length ≤ k + 1 := by
        rcases HOF.out with ⟨h1, h2⟩ | ⟨h1, h2, h3⟩
        · exact ⟨_, .inl ⟨h1, rfl⟩, h2, by simp, by simp; omega⟩
        · exact ⟨_, .inr ⟨h1, rfl⟩, h3, h2, by omega⟩
      obtain ⟨want', hw', hfi', hp', hl'⟩ := hcase
      have FI1 := Lib.hid hfi'
      clear hfi' HOF
      rcases hw' with ⟨rfl, rfl⟩ | ⟨rfl, rfl⟩
      · have hwlt : want.length ≤ 12 := by omega
        go_wp2_with (at_builtin; refine wpList_append rfl (.tmp 35) (.tmp 37) 23 rfl W.heap.size 9 1 16 i0 _ Tryd.underlying23 hii hq0 hq1 hq2 rfl (by omega) wA want.length wc (want.map strCells) rfl ((FS2.out.wn.alloc_ _).alloc_ _) _ 1 1 [[.string sx]] rfl (Row.new1' _ _ [.string sx] 1 _ (by simp)) (by simp) (by simp [Value.oneCell']) (by simp only [maxLen]; omega) (by omega) (by have := FS2.out.bl.size; simp; omega) ?_; intro A5 c5 w3 ho5 hg5 hat5)
        have FS3 := Lib.hid (FS.pushW (FS2.out.below (bAlloc (Below.refl _ _) (.cells #[.slice v2.q.A v2.q.n v2.q.c, .int .i64 D.base, .int .i64 D.expected, .slice v2.i.A v2.i.n v2.i.c, .slice v2.n.A v2.n.n v2.n.c, .slice v2.a.A v2.a.n v2.a.c] 26))) hg5 ho5 hat5)
        have B8 : Hid (Own w3 0 26 6 (some ⟨w2.heap.size, 0, none⟩) 1 1 [cChan v2 D.base D.expected]) := ((Own.box (t := 26) (sz := 6) (cs := cChan v2 D.base D.expected) (heap_alloc_new w2 _) rfl).alloc_ _).upd (Upd.of_row hg5) (fun q hq hm => by simp [obl, ob] at hq; have := (FS2.out.wn.lt q (mem_obl.1 hm)).2; omega)
        have OD3 := Lib.hid (((OD.out.below (bAlloc (Below.refl _ _) (.cells #[.slice v2.q.A v2.q.n v2.q.c, .int .i64 D.base, .int .i64 D.expected, .slice v2.i.A v2.i.n v2.i.c, .slice v2.n.A v2.n.n v2.n.c, .slice v2.a.A v2.a.n v2.a.c] 26))).below (bAlloc (Below.refl _ _) (.cells #[.string sx] 9))).upd (Upd.of_row hg5) (fun q hq hm => by have h1 := FD.out.lo q hq; have h2 := hw1lt.out q (mem_obl.1 hm); omega))
        clear ho5 hg5 hat5 FS2 OD FD
        refine Calls.mono (MakeMove_c (W := W) (c := c) FS3.out.bl hy'.out hn k (by omega)) ?_
        rintro e w4 ⟨mx, my, rfl, m1, m2, m3, m4, hb4⟩
        have B4 := Lib.hid (Own.below B8.out hb4)
        have y0 := B4.out.bcell 0 _ rfl; have y1 := B4.out.bcell 1 _ rfl; have y2 := B4.out.bcell 2 _ rfl; have y3 := B4.out.bcell 3 _ rfl; have y4 := B4.out.bcell 4 _ rfl; have y5 := B4.out.bcell 5 _ rfl
        have yz := B4.out.lt1
        have FS4 := Lib.hid (FS3.out.below (bTrans hb4 (bAlloc (Below.refl _ _) (.cells #[] 9))))
        have OD4 := Lib.hid (OD3.out.below (bTrans hb4 (bAlloc (Below.refl _ _) (.cells #[] 9))))
        clear hb4 FS3 OD3 B8
        go_wp2_with fail
        have hst := impl_StepChannel_k v2 D mx my _ FI1.out.bulk FI1.out.ok OD4.out.rd (wfC m1 m2) (wfC m3 m4) (HT.out.below FS4.out.bl)
        have FI5 := FI1.out.step (by omega) mx my
        obtain ⟨S, hS⟩ : ∃ S, S = stepC D mx my := ⟨_, rfl⟩
        rw [← hS] at hst FI5
        have FI5 := Lib.hid FI5
        refine Calls.mono hst ?_
        rintro e w5 ⟨v5, rfl, ho5, hf5, hb5⟩
        have FS5 := Lib.hid (FS4.out.below hb5)
        have OS5 := Lib.hid ho5
        clear hst hS ho5 hf5 hb5 FS4 OD4 B4 y0 y1 y2 y3 y4 y5 yz
        go_wp2_with fail
        refine Calls.mono (impl_TakeInbox_k v5 S _ FI5.out.bulk FI5.out.ok OS5.out.rd) ?_
        rintro e w6 ⟨v6, vs, rfl, ho6, hf6, hs6, hfs6, hap6, hb6⟩
        have hX5 := FS5.out.bx.lt1
        have hsl : Hid (S.inbox.length = vs.n) := hs6.rd.len
        have hsn : vs.n ≤ 12 := by have h1 := FI5.out.inbox.2; have h2 := FI5.out.len; have h3 := hsl.out; omega
        have hg12 : got.length ≤ 12 := by have h1 := FI5.out.inbox.2; have h2 := FI5.out.len; omega
        have tok : True := trivial
        have tok2 : True := trivial
        go_wp2_with (first
          | (have _t := tok; refine wpList_store_elem rfl 26 (.tmp 3) (.tmp 52) rfl 0 26 6 1 1 W.heap.size 0 0 rfl _ rfl _ (cChan v6 (takeC S).base (takeC S).expected) rfl rfl rfl (one_of rfl) sz_Chan (FS5.out.below hb6).bx (by omega) ?_; clear tok _t; intro w7 hx7 hg7; have FS7 := Lib.hid (FS.newC FS5.out hb6 ho6 hf6 hx7 hg7); have hs7 := Lib.hid (OwS.upd hs6 (upd1 hg7) (fun q hq hm => by simp only [List.mem_singleton] at hm; have := hfs6.lo q hq; omega)); clear hx7 hg7)
          | (at_builtin; have _t := tok2; refine wpList_append rfl (.tmp 54) (.tmp 55) 23 rfl W.heap.size 9 1 16 i0 _ Tryd.underlying23 hii hq0 hq1 hq2 rfl (by omega) gA got.length gc (got.map strCells) rfl FS7.out.gt vs.A vs.n vs.c (S.inbox.map strCells) rfl hs7.out.rd one_S cell_S (by simp only [maxLen]; omega) (by omega) FS7.out.bl.size ?_; clear tok2 _t; intro A8 c8 w8 ho8 hg8 hat8))
        have FS8 := Lib.hid (FS.pushG FS7.out hg8 ho8 hsl.out hat8)
        have hgl2 : (got ++ S.inbox).length = got.length + vs.n := by rw [List.length_append, hsl.out]
        clear ho6 hf6 hs6 hfs6 hap6 hb6 ho8 hg8 hat8
        exact ⟨⟨k + 1, v6, takeC S, A5, c5, want ++ [sx], A8, c8, got ++ S.inbox, by first | rfl | simp, by rw [hgl2], by simp, by omega, hl', .inr hp', FI5.out.take, rfl, FS8.out⟩, by simp only [intOf]; omega⟩
      · have FS3 := Lib.hid (FS2.out.below (bAlloc (Below.refl _ _) (.cells #[.slice v2.q.A v2.q.n v2.q.c, .int .i64 D.base, .int .i64 D.expected, .slice v2.i.A v2.i.n v2.i.c, .slice v2.n.A v2.n.n v2.n.c, .slice v2.a.A v2.a.n v2.a.c] 26)))
        have B8 : Hid (Own (w2.alloc (.cells #[.slice v2.q.A v2.q.n v2.q.c, .int .i64 D.base, .int .i64 D.expected, .slice v2.i.A v2.i.n v2.i.c, .slice v2.n.A v2.n.n v2.n.c, .slice v2.a.A v2.a.n v2.a.c] 26)) 0 26 6 (some ⟨w2.heap.size, 0, none⟩) 1 1 [cChan v2 D.base D.expected]) := Own.box (t := 26) (sz := 6) (cs := cChan v2 D.base D.expected) (heap_alloc_new w2 _) rfl
        have OD3 := Lib.hid (OD.out.below (bAlloc (Below.refl _ _) (.cells #[.slice v2.q.A v2.q.n v2.q.c, .int .i64 D.base, .int .i64 D.expected, .slice v2.i.A v2.i.n v2.i.c, .slice v2.n.A v2.n.n v2.n.c, .slice v2.a.A v2.a.n v2.a.c] 26)))
        clear FS2 OD FD
        go_wp2_with fail
        refine Calls.mono (MakeMove_c (W := W) (c := c) FS3.out.bl hy'.out hn k (by omega)) ?_
        rintro e w4 ⟨mx, my, rfl, m1, m2, m3, m4, hb4⟩
        have B4 := Lib.hid (Own.below B8.out hb4)
        have y0 := B4.out.bcell 0 _ rfl; have y1 := B4.out.bcell 1 _ rfl; have y2 := B4.out.bcell 2 _ rfl; have y3 := B4.out.bcell 3 _ rfl; have y4 := B4.out.bcell 4 _ rfl; have y5 := B4.out.bcell 5 _ rfl
        have yz := B4.out.lt1
        have FS4 := Lib.hid (FS3.out.below (bTrans hb4 (bAlloc (Below.refl _ _) (.cells #[] 9))))
        have OD4 := Lib.hid (OD3.out.below (bTrans hb4 (bAlloc (Below.refl _ _) (.cells #[] 9))))
        clear hb4 FS3 OD3 B8
        go_wp2_with fail
        have hst := impl_StepChannel_k v2 D mx my _ FI1.out.bulk FI1.out.ok OD4.out.rd (wfC m1 m2) (wfC m3 m4) (HT.out.below FS4.out.bl)
        have FI5 := FI1.out.step (by omega) mx my
        obtain ⟨S, hS⟩ : ∃ S, S = stepC D mx my := ⟨_, rfl⟩
        rw [← hS] at hst FI5
        have FI5 := Lib.hid FI5
        refine Calls.mono hst ?_
        rintro e w5 ⟨v5, rfl, ho5, hf5, hb5⟩
        have FS5 := Lib.hid (FS4.out.below hb5)
        have OS5 := Lib.hid ho5
        clear hst hS ho5 hf5 hb5 FS4 OD4 B4 y0 y1 y2 y3 y4 y5 yz
        go_wp2_with fail
        refine Calls.mono (impl_TakeInbox_k v5 S _ FI5.out.bulk FI5.out.ok OS5.out.rd) ?_
        rintro e w6 ⟨v6, vs, rfl, ho6, hf6, hs6, hfs6, hap6, hb6⟩
        have hX5 := FS5.out.bx.lt1
        have hsl : Hid (S.inbox.length = vs.n) := hs6.rd.len
        have hsn : vs.n ≤ 12 := by have h1 := FI5.out.inbox.2; have h2 := FI5.out.len; have h3 := hsl.out; omega
        have hg12 : got.length ≤ 12 := by have h1 := FI5.out.inbox.2; have h2 := FI5.out.len; omega
        have tok : True := trivial
        have tok2 : True := trivial
        go_wp2_with (first
          | (have _t := tok; refine wpList_store_elem rfl 26 (.tmp 3) (.tmp 52) rfl 0 26 6 1 1 W.heap.size 0 0 rfl _ rfl _ (cChan v6 (takeC S).base (takeC S).expected) rfl rfl rfl (one_of rfl) sz_Chan (FS5.out.below hb6).bx (by omega) ?_; clear tok _t; intro w7 hx7 hg7; have FS7 := Lib.hid (FS.newC FS5.out hb6 ho6 hf6 hx7 hg7); have hs7 := Lib.hid (OwS.upd hs6 (upd1 hg7) (fun q hq hm => by simp only [List.mem_singleton] at hm; have := hfs6.lo q hq; omega)); clear hx7 hg7)
          | (at_builtin; have _t := tok2; refine wpList_append rfl (.tmp 54) (.tmp 55) 23 rfl W.heap.size 9 1 16 i0 _ Tryd.underlying23 hii hq0 hq1 hq2 rfl (by omega) gA got.length gc (got.map strCells) rfl FS7.out.gt vs.A vs.n vs.c (S.inbox.map strCells) rfl hs7.out.rd one_S cell_S (by simp only [maxLen]; omega) (by omega) FS7.out.bl.size ?_; clear tok2 _t; intro A8 c8 w8 ho8 hg8 hat8))
        have FS8 := Lib.hid (FS.pushG FS7.out hg8 ho8 hsl.out hat8)
        have hgl2 : (got ++ S.inbox).length = got.length + vs.n := by rw [List.length_append, hsl.out]
        clear ho6 hf6 hs6 hfs6 hap6 hb6 ho8 hg8 hat8
        exact ⟨⟨k + 1, v6, takeC S, wA, wc, want', A8, c8, got ++ S.inbox, by first | rfl | simp, by rw [hgl2], by simp, by omega, hl', .inr hp', FI5.out.take, rfl, FS8.out⟩, by simp only [intOf]; omega⟩
    · obtain rfl : k = 12 := by omega
      have hwp : 0 < want.length := hw0.resolve_left (by omega)
      have hg1 : ¬ ((want.length : Int) < (got.length : Int)) := by have := hgl.out; omega
      have hg2 : ¬ want.length < got.length := by have := hgl.out; omega
      have hw1 : ¬ (want.length : Int) = 0 := by omega
      have hw2 : ¬ want.length = 0 := by omega
      have hne : ¬ want = [] := by intro e; rw [e] at hwp; simp at hwp
      clear hw0
      go_wp2_with fail
      refine Calls.mono (impl_IsChannel_c v ch _ (FIW.out.ok.2.2.2.2.1) FSW.out.ow.rd) ?_
      rw [FIW.out.chan]
      rintro e w1 ⟨rfl, hb1⟩
      have FS1 := Lib.hid (FSW.out.below hb1)
      clear hb1 FSW x0 x1 x2 x3 x4 x5 xf xz
      obtain ⟨x0, x1, x2, x3, x4, x5, xf, xz⟩ := FS1.out.at6
      go_wp2_with fail
      have hst := impl_CalmChannel_k v ch _ FIW.out.bulk FIW.out.ok FS1.out.ow.rd (HT.out.below FS1.out.bl)
      have FI5 := FIW.out.calmFI
      have hcalm := FIW.out.calm
      obtain ⟨S, hS⟩ : ∃ S, S = calmC ch := ⟨_, rfl⟩
      rw [← hS] at hst FI5 hcalm
      have FI5 := Lib.hid FI5
      have HCA := Lib.hid hcalm
      refine Calls.mono hst ?_
      rintro e w5 ⟨v5, rfl, ho5, hf5, hb5⟩
      have FS5 := Lib.hid (FS1.out.below hb5)
      have OS5 := Lib.hid ho5
      clear hst hS ho5 hf5 hb5 FS1 hcalm x0 x1 x2 x3 x4 x5 xf xz
      go_wp2_with fail
      refine Calls.mono (impl_TakeInbox_k v5 S _ FI5.out.bulk FI5.out.ok OS5.out.rd) ?_
      rintro e w6 ⟨v6, vs, rfl, ho6, hf6, hs6, hfs6, hap6, hb6⟩
      have hX5 := FS5.out.bx.lt1
      have hsl : Hid (S.inbox.length = vs.n) := hs6.rd.len
      have hsn : vs.n ≤ 12 := by have h1 := FI5.out.inbox.2; have h2 := FI5.out.len; have h3 := hsl.out; omega
      have hg12 : got.length ≤ 12 := by have h1 := FI5.out.inbox.2; have h2 := FI5.out.len; omega
      have hq6 : Hid (v6.q.n = 0) := by have h1 := ho6.q.len; have h2 : (takeC S).queue = [] := HCA.out.1; rw [h2] at h1; show v6.q.n = 0; exact h1.symm
      have tok : True := trivial
      have tok2 : True := trivial
      have hlenI : ((got.length : Int) + (vs.n : Int)) = (want.length : Int) := by
        have h1 := congrArg List.length HCA.out.2
        rw [List.length_append, hsl.out] at h1
        omega
      have HLI := Lib.hid hlenI
      clear hlenI
      obtain ⟨⟨q6A, q6n, q6c⟩, v6i, v6n, v6a⟩ := v6
      obtain rfl : q6n = 0 := hq6.out
      go_wp2_with (first
        | (have _t := tok; refine wpList_store_elem rfl 26 (.tmp 3) (.tmp 76) rfl 0 26 6 1 1 W.heap.size 0 0 rfl _ rfl _ (cChan ⟨⟨q6A, 0, q6c⟩, v6i, v6n, v6a⟩ (takeC S).base (takeC S).expected) rfl rfl rfl (one_of rfl) sz_Chan (FS5.out.below hb6).bx (by omega) ?_; clear tok _t; intro w7 hx7 hg7; have FS7 := Lib.hid (FS.newC FS5.out hb6 ho6 hf6 hx7 hg7); have hs7 := Lib.hid (OwS.upd hs6 (upd1 hg7) (fun q hq hm => by simp only [List.mem_singleton] at hm; have := hfs6.lo q hq; omega)); clear hx7 hg7)
        | (at_builtin; have _t := tok2; refine wpList_append rfl (.tmp 78) (.tmp 79) 23 rfl W.heap.size 9 1 16 i0 _ Tryd.underlying23 hii hq0 hq1 hq2 rfl (by omega) gA got.length gc (got.map strCells) rfl FS7.out.gt vs.A vs.n vs.c (S.inbox.map strCells) rfl hs7.out.rd one_S cell_S (by simp only [maxLen]; omega) (by omega) FS7.out.bl.size ?_; clear tok2 _t; intro A8 c8 w8 ho8 hg8 hat8; have FS8 := Lib.hid (FS.pushG FS7.out hg8 ho8 hsl.out hat8); obtain ⟨x0, x1, x2, x3, x4, x5, xf, xz⟩ := FS8.out.at6; have hlenI := HLI.out; have hlenN : got.length + vs.n = want.length := (by omega); clear ho8 hg8 hat8))
      have hgw := HCA.out.2
      have RW := Lib.hid (FS8.out.wn.row)
      have rg := FS8.out.gt.row
      rw [hgw] at rg
      have RG := Lib.hid rg
      have BL := Lib.hid FS8.out.bl
      clear rg hgw FS8 HCA FI5 OS5 FS5 ho6 hf6 hs6 hfs6 hap6 hb6 hs7 FS7 x0 x1 x2 x3 x4 x5 xf xz hlenI
      go_loop [94] (fun i => ∃ k : Nat, i = .int .i64 (k : Int) ∧ k ≤ want.length) (fun i => want.length - (intOf i).toNat)
      case atStart => exact ⟨0, rfl, Nat.zero_le _⟩
      case round =>
        obtain ⟨k, rfl, hk⟩ := hrel
        by_cases hlt2 : k < want.length
        · obtain ⟨sx, g1, o1, hs1, hA1, hc1⟩ := RowS.at_ RW.out hlt2
          obtain ⟨sy, g2, o2, hs2, hA2, hc2⟩ := RowS.at_ RG.out hlt2
          obtain rfl : sx = sy := Option.some.inj (hs1.out.symm.trans hs2.out)
          have hk0 : (0 : Int) ≤ (k : Int) := by omega
          have hk1 : (k : Int) < (want.length : Int) := by omega
          subst hA1
          subst hA2
          clear hs1 hs2
          go_wp2_with fail
          exact ⟨⟨k + 1, by simp, by omega⟩, by simp only [intOf]; omega⟩
        · obtain rfl : k = want.length := by omega
          have hkn : ¬ (want.length : Int) < (want.length : Int) := by omega
          go_wp2_with fail
          go_ret
          exact ⟨rfl, BL.out⟩
end Go.Proofs.YtgpmmmfnbphgdaaDoor
