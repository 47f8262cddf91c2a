/- Texts of this proof, one behind the other: DrawE, WReplay, OpenY. -/
import Derived.Test.YtebcdjpddoaajaaDoorGs18
import Derived.Test.YtebcdjpddoaajaaDoorGs22
import Derived.Test.YtebcdjpddoaajaaDoorGs25
import Derived.Test.YtebcdjpddoaajaaDoorGs26
import Derived.Test.YtebcdjpddoaajaaDoorGs27
import Derived.Test.YtebcdjpddoaajaaDoorGs29
/- The draw of entries: l27Draw, MakeEntries. -/
namespace Go.Proofs.YtebcdjpddoaajaaDoor
open Go.RowKit
set_option linter.unusedVariables false
set_option linter.unusedSimpArgs false
set_option maxHeartbeats 4000000
set_option maxRecDepth 100000
theorem ent_push {W w w2 w5 : World} {b : Nat} {A : Option Addr} {n c : Nat} {A' VA A5 : Option Addr} {k c' vn vc t1 t2 : Nat} {css ces : List (List Value)} (hlt : b < w.heap.size) (HWW : Below W.heap.size W w) (HbW : W.heap.size ≤ b)
    (hc : Cur W w2 b A n c) (hu : Upd [b] w w2) (ho : Own w2 w.heap.size t1 10 A' k c' css) (hov : Own w2 w.heap.size t2 8 VA vn vc ces) (hd : ∀ q, ob VA = some q → ¬ ob A' = some q)
    (hg : w2.grownBy w5 (ob A')) (hat : ob A5 = ob A' ∨ ob A5 = some w2.heap.size) :
    Own w5 w.heap.size t2 8 VA vn vc ces ∧ (∀ q, ob VA = some q → ¬ ob A5 = some q) ∧ Cur W w5 b A n c ∧ Upd [b] w w5 := by
  have hu5 : Upd [b] w w5 := Upd.grown_hi2 hu hg (fun q hq => (ho.lt q hq).1)
  refine ⟨hov.upd (Upd.of_row hg) (fun q hq hm => hd q (mem_obl.1 hq) (mem_obl.1 hm)), fun q hq e => ?_, hc.keep (bUpd1 (w := w) HWW hu5 HbW) (hg.block b hc.lt (fun e => by have := (ho.lt b e.symm).1; omega)), hu5⟩
  rcases hat with h1 | h1
  · exact hd q hq (h1 ▸ e)
  · rw [h1] at e
    have h2 := Option.some.inj e
    have h3 := (hov.lt q hq).2
    omega
theorem vld_add {f : Factor} (h : vldFactor f = true) : vldEntry ⟨false, 0, f⟩ = true := by simp [vldEntry, h]
theorem vld_rem {x : Int} (h0 : 0 ≤ x) (h1 : x < 6) : vldEntry ⟨true, x, zFac⟩ = true := by
  have : inR x 0 99999 = true := inR_iff.2 ⟨h0, by omega⟩
  unfold vldEntry
  simp only [if_true, this, Bool.true_and]
  decide +kernel
theorem l27Draw_c {W w : World} {b : Nat} {A : Option Addr} {n c : Nat} (hy : Bytes W A n) (hn : n ≤ 1048576) (h : Cur W w b A n c) :
    Calls Tryd.prog 65 #[.pointer (some ⟨b, 0, none⟩)] w fun e w' => ∃ (v : Sv) (E : List Entry), e = .returned (.slice v.A v.n v.c) ∧ (∀ e ∈ E, vldEntry e = true) ∧ 0 < E.length ∧ E.length ≤ 16 ∧ Own w' w.heap.size 62 10 v.A v.n v.c (E.map Entry.cells) ∧ Cur W w' b A n c ∧ Upd [b] w w' := by
  obtain ⟨i0, hii, hq0, hq1, hq2⟩ := info_parts info_EntryJ
  have hlt := h.lt
  have HWW := Lib.hid h.hB
  have HbW := Lib.hid h.hb
  have hy' := Lib.hid hy
  have HC := Lib.hid (h.alloc_ (.cells #[] 62))
  clear h hy
  go_enter Tryd.func65, Tryd.ntmps65
  go_wp2_with fail
  refine Calls.mono (l16List_c hy'.out hn HC.out) ?_
  rintro e w1 ⟨v, l0, rfl, hlen, hfok, hov, hc1, hu1⟩
  have hpos : 0 < l0.length := hfok.1
  have HFOK := Lib.hid hfok.2.1
  have U1 : Upd [b] w w1 := (Upd.of_below (bAlloc (Below.refl _ _) _)).trans hu1
  have ho1 : Own w1 w.heap.size 62 10 (some ⟨w.heap.size, 0, none⟩) 0 0 [] := (Own.made0 w _ 10 (Nat.le_refl _)).upd hu1 (fun k hk hm => by simp [obl, ob] at hk hm; omega)
  have hvlo : Hid (∀ q, ob v.A = some q → w.heap.size + 1 ≤ q) := fun q hq => by have := (hov.lt q hq).1; simp at this; omega
  have hov1 : Own w1 w.heap.size 28 8 v.A v.n v.c (l0.map Factor.cells) := hov.rebase (by simp)
  have HLV : Hid (l0.length = v.n) := by have := hov.len; rw [List.length_map] at this; exact this
  have hvn : v.n ≤ 8 := by have := HLV.out; omega
  obtain ⟨VA, vn, vc⟩ := v
  dsimp only at *
  have hd0 : ∀ q, ob VA = some q → ¬ ob (some (⟨w.heap.size, 0, none⟩ : Addr)) = some q := fun q hq e => by have h1 := hvlo.out q hq; simp [ob] at e; omega
  have HD0 := Lib.hid hd0
  have HC1 := Lib.hid hc1
  clear HC hov hfok hc1 hu1 hd0 hvlo
  go_wp2_with fail
  go_loopw [3, 10] (fun sv iv wr => ∃ (k : Nat) (A' : Option Addr) (c' : Nat) (E : List Entry), k ≤ vn ∧ iv = .int .i64 (k : Int) ∧ sv = .slice A' E.length c' ∧ E.length ≤ 2 * k ∧ k ≤ E.length ∧ (∀ e ∈ E, vldEntry e = true) ∧ Own wr w.heap.size 62 10 A' E.length c' (E.map Entry.cells) ∧ Own wr w.heap.size 28 8 VA vn vc (l0.map Factor.cells) ∧ (∀ q, ob VA = some q → ¬ ob A' = some q) ∧ Cur W wr b A n c ∧ Upd [b] w wr) (fun _ iv _ => vn - (intOf iv).toNat)
  case atStart => exact ⟨0, _, 0, [], Nat.zero_le _, rfl, rfl, by simp, by simp, by simp, by simpa using ho1, hov1, HD0.out, HC1.out, U1⟩
  case round =>
    obtain ⟨k, A', c', E, hk, rfl, rfl, hE2, hEk, hEv, ho, hov, hd, hc, hu⟩ := hrel
    have HC2 := Lib.hid hc; have HE := Lib.hid hEv; have HD := Lib.hid hd; have HO := Lib.hid ho; have HOV := Lib.hid hov; have HU := Lib.hid hu
    clear hc hEv hd ho hov hu HC1 ho1 hov1 U1
    by_cases hltk : k < vn
    · obtain ⟨f, g, off, hf, hA, g0, g1, g2, g3, g4, g5, g6, g7⟩ := RowF.at_ HOV.out.row hltk
      have HFF := Lib.hid (HFOK.out f (List.mem_of_getElem? hf.out)).1
      have hx0 : (0 : Int) ≤ (k : Int) := by omega
      have hx1 : (k : Int) < (vn : Int) := by omega
      have hsz := HU.out.size
      have hA0 := hA
      have HA := Lib.hid hA
      subst hA
      clear hf hA0
      go_wp2_with (at_builtin; refine wpList_append rfl (.tmp 14) (.tmp 17) 54 rfl w.heap.size 62 10 96 i0 _ Tryd.underlying54 hii hq0 hq1 hq2 rfl (by omega) A' E.length c' (E.map Entry.cells) rfl (HO.out.below (by repeat (first | with_reducible exact Below.refl _ _ | with_reducible refine bAlloc ?_ _ | with_reducible refine bDrew ?_ | with_reducible refine bDrewN ?_ _))) _ 1 1 [[.bool false, .int .i64 0, .int .i64 f.id, .int .i64 f.kind, .string f.frm, .string f.to, .int .i64 f.pose.turn, .int .i64 f.pose.x, .int .i64 f.pose.y, .int .i64 f.weight]] rfl (Row.new1' _ _ [.bool false, .int .i64 0, .int .i64 f.id, .int .i64 f.kind, .string f.frm, .string f.to, .int .i64 f.pose.turn, .int .i64 f.pose.x, .int .i64 f.pose.y, .int .i64 f.weight] 10 _ (by simp)) (by simp) (by simp [Value.oneCell']) (by simp only [maxLen]; omega) (by omega) (by simp; omega) ?_; intro A5 c5 w5 ho5 hg5 hat5)
      obtain ⟨p1, p2, p3, p4⟩ := ent_push (A5 := A5) hlt HWW.out HbW.out ((HC2.out.alloc_ _).alloc_ _) ((HU.out.alloc_ _).alloc_ _) ((HO.out.alloc_ _).alloc_ _) ((HOV.out.alloc_ (.cells #[.int .i64 f.id, .int .i64 f.kind, .string f.frm, .string f.to, .int .i64 f.pose.turn, .int .i64 f.pose.x, .int .i64 f.pose.y, .int .i64 f.weight] 28)).alloc_ (.cells #[.bool false, .int .i64 0, .int .i64 f.id, .int .i64 f.kind, .string f.frm, .string f.to, .int .i64 f.pose.turn, .int .i64 f.pose.x, .int .i64 f.pose.y, .int .i64 f.weight] 62)) HD.out hg5 hat5
      have ho5' : Own w5 w.heap.size 62 10 A5 (E.length + 1) c5 ((E ++ [(⟨false, 0, f⟩ : Entry)]).map Entry.cells) := by rw [List.map_append]; exact ho5
      have HV5 := Lib.hid (show ∀ e ∈ E ++ [(⟨false, 0, f⟩ : Entry)], vldEntry e = true from fun e he => by
        rcases List.mem_append.1 he with he | he
        · exact HE.out e he
        · rw [List.mem_singleton.1 he]; exact vld_add HFF.out)
      have HO5 := Lib.hid ho5'; have HP1 := Lib.hid p1; have HP2 := Lib.hid p2; have HP3 := Lib.hid p3; have HP4 := Lib.hid p4
      clear ho5 ho5' p1 p2 p3 p4 hg5 hat5 g0 g1 g2 g3 g4 g5 g6 g7 HC2 HO HOV HU HE HD
      go_wp2_with fail
      refine Calls.mono (l01Once_c hy'.out hn HP3.out 5 (by omega) (by omega)) ?_
      rintro e w6 ⟨o, rfl, hc6, hu6⟩
      have U6 := HP4.out.trans hu6
      have HO6 := Lib.hid (HO5.out.upd hu6 (fun q hq hm => by have h1 := (HO5.out.lt q (mem_obl.1 hq)).1; simp at hm; omega))
      have HOV6 := Lib.hid (HP1.out.upd hu6 (fun q hq hm => by have h1 := (HP1.out.lt q (mem_obl.1 hq)).1; simp at hm; omega))
      have HC6 := Lib.hid hc6
      have HU6 := Lib.hid U6
      have hsz6 := U6.size
      clear hc6 hu6 U6 HO5 HP1 HP3 HP4
      cases o with
      | false =>
        go_wp2_with fail
        exact ⟨⟨k + 1, A5, c5, E ++ [(⟨false, 0, f⟩ : Entry)], by omega, by simp, by simp, by simp; omega, by simp; omega, HV5.out, by simpa using HO6.out, HOV6.out, HP2.out, HC6.out, HU6.out⟩, by simp only [intOf]; omega⟩
      | true =>
        go_wp2_with fail
        refine Calls.mono (l01Below_c hy'.out hn HC6.out 6 (by omega) (by omega)) ?_
        rintro e w7 ⟨x, rfl, hx6, hx7, hc7, hu7⟩
        have U7 := HU6.out.trans hu7
        have HO7 := Lib.hid (HO6.out.upd hu7 (fun q hq hm => by have h1 := (HO6.out.lt q (mem_obl.1 hq)).1; simp at hm; omega))
        have HOV7 := Lib.hid (HOV6.out.upd hu7 (fun q hq hm => by have h1 := (HOV6.out.lt q (mem_obl.1 hq)).1; simp at hm; omega))
        have HC7 := Lib.hid hc7
        have HU7 := Lib.hid U7
        have hsz7 := U7.size
        clear hc7 hu7 U7 HO6 HOV6 HC6 HU6
        go_wp2_with (at_builtin; refine wpList_append rfl (.tmp 21) (.tmp 25) 54 rfl w.heap.size 62 10 96 i0 _ Tryd.underlying54 hii hq0 hq1 hq2 rfl (by omega) A5 (E.length + 1) c5 ((E ++ [(⟨false, 0, f⟩ : Entry)]).map Entry.cells) rfl (HO7.out.below (by repeat (first | with_reducible exact Below.refl _ _ | with_reducible refine bAlloc ?_ _ | with_reducible refine bDrew ?_ | with_reducible refine bDrewN ?_ _))) _ 1 1 [[.bool true, .int .i64 x, .int .i64 0, .int .i64 0, .string ⟨#[]⟩, .string ⟨#[]⟩, .int .i64 0, .int .i64 0, .int .i64 0, .int .i64 0]] rfl (Row.new1' _ _ [.bool true, .int .i64 x, .int .i64 0, .int .i64 0, .string ⟨#[]⟩, .string ⟨#[]⟩, .int .i64 0, .int .i64 0, .int .i64 0, .int .i64 0] 10 _ (by simp)) (by simp) (by simp [Value.oneCell']) (by simp only [maxLen]; omega) (by omega) (by simp; omega) ?_; intro A8 c8 w8 ho8 hg8 hat8)
        obtain ⟨p1, p2, p3, p4⟩ := ent_push (A5 := A8) hlt HWW.out HbW.out (HC7.out.alloc_ _) (HU7.out.alloc_ _) (HO7.out.alloc_ _) (HOV7.out.alloc_ (.cells #[.bool true, .int .i64 x, .int .i64 0, .int .i64 0, .string ⟨#[]⟩, .string ⟨#[]⟩, .int .i64 0, .int .i64 0, .int .i64 0, .int .i64 0] 62)) HP2.out hg8 hat8
        have ho8' : Own w8 w.heap.size 62 10 A8 (E.length + 1 + 1) c8 ((E ++ [(⟨false, 0, f⟩ : Entry)] ++ [(⟨true, x, zFac⟩ : Entry)]).map Entry.cells) := by rw [List.map_append]; exact ho8
        exact ⟨⟨k + 1, A8, c8, E ++ [(⟨false, 0, f⟩ : Entry)] ++ [(⟨true, x, zFac⟩ : Entry)], by omega, by simp, by simp, by simp; omega, by simp; omega, fun e he => by
          rcases List.mem_append.1 he with he | he
          · exact HV5.out e he
          · rw [List.mem_singleton.1 he]; exact vld_rem hx6 hx7, by simpa using ho8', p1, p2, p3, p4⟩, by simp only [intOf]; omega⟩
    · obtain rfl : k = vn := by omega
      have hkn : ¬ (k : Int) < (k : Int) := by omega
      go_wp2_with fail
      refine bodyPost_ret (v := .slice A' E.length c') (by simp [*, results, Tryd.results65, go_sem]) rfl ?_
      exact ⟨⟨A', E.length, c'⟩, rfl, E, HE.out, by have := HLV.out; omega, by omega, HO.out, HC2.out, HU.out⟩
theorem MakeEntries_c {W w : World} {A : Option Addr} {n c : Nat} (hB : Below W.heap.size W w) (hy : Bytes W A n) (hn : n ≤ 1048576) :
    Calls Tryd.prog 27 #[.slice A n c] w fun e w' => ∃ (v : Sv) (E : List Entry), e = .returned (.slice v.A v.n v.c) ∧ (∀ e ∈ E, vldEntry e = true) ∧ 0 < E.length ∧ E.length ≤ 16 ∧ OwN w' v E ∧ Fresh w.heap.size w' (fpN v) ∧ Below w.heap.size w w' := by
  have HB := Lib.hid hB
  have hy' := Lib.hid hy
  clear hB hy
  go_enter Tryd.func27, Tryd.ntmps27
  go_wp2_with fail
  refine Calls.mono (l01New_c (c := c) HB.out hy'.out hn) ?_
  rintro e w1 ⟨b, rfl, hb, hc1, hb1⟩
  have HC := Lib.hid hc1
  have hs := hb1.size
  have B1 := Lib.hid hb1
  clear hc1 hb1
  go_wp2_with fail
  refine Calls.mono (l27Draw_c hy'.out hn HC.out) ?_
  rintro e w2 ⟨v, E, rfl, hv, hpos, hlen, ho, hc2, hu2⟩
  have FL := Lib.hid hv
  have B2 := Lib.hid (bUpd1 (W := w) B1.out hu2 hb)
  clear hv hc2 hu2
  go_wp2_with fail
  go_ret
  exact ⟨v, E, rfl, FL.out, hpos, hlen, ho.zero, Fresh.rebase (Fresh.obl_ ho) hs, B2.out⟩
end Go.Proofs.YtebcdjpddoaajaaDoor

/- The walk of the law FnReplay. -/
namespace Go.Proofs.YtebcdjpddoaajaaDoor
open Go.RowKit
set_option linter.unusedVariables false
set_option linter.unusedSimpArgs false
set_option maxHeartbeats 4000000
set_option maxRecDepth 100000
theorem w_FnReplay (W : World) (A : Option Addr) (n c : Nat) (hm : n ≤ maxLen) (hy : Bytes W A n) (hT : TabJ W) :
    Calls Tryd.prog 7 #[.slice A n c] W fun e w' => e = rBool true ∧ Below W.heap.size W w' := by
  by_cases hn : n ≤ 1048576
  rotate_left
  · have hn' : (1048576 : Int) < (n : Int) := by omega
    go_enter Tryd.func7, Tryd.ntmps7
    go_wp2
    go_ret
    exact ⟨rfl, Below.refl _ _⟩
  have hn' : decide ((1048576 : Int) < (n : Int)) = false := by simp; omega
  have hy' := Lib.hid hy
  have HT := Lib.hid hT
  clear hy hm hT
  go_enter Tryd.func7, Tryd.ntmps7
  go_wp2_with fail
  refine Calls.mono (MakeEntries_c (W := W) (c := c) (Below.refl _ _) hy'.out hn) ?_
  rintro e w1 ⟨ve, E, rfl, hv, hpos, h16, hoe, hfe, hb1⟩
  have HV := Lib.hid hv
  have HRE := Lib.hid hoe.rd
  have hlen : E.length = ve.n := by have := hoe.rd.1; simpa using this
  have hbk := Lib.hid (show bulkN E ≤ 1048576 by have := ents_bulk E hv; unfold bulkN; omega)
  have hok := Lib.hid (show okN E from fun e he => ⟨(ent_small (hv e he)).2.2.1, (ent_small (hv e he)).2.1⟩)
  obtain ⟨A0, n0, c0⟩ := ve
  simp only at hlen HRE
  clear hoe hfe hv
  go_wp2_with fail
  have hl0 : Own (w1.alloc (.cells #[] 28)) w1.heap.size 28 8 (some ⟨w1.heap.size, 0, none⟩) 0 0 [] := Own.made0 w1 _ 8 (Nat.le_refl _)
  have hz1 := hb1.size
  go_loopw [4, 5, 18] (fun lv sv iv wr => ∃ (k : Nat) (v : Sv) (t : ByteArray), k ≤ n0 ∧ iv = .int .i64 (k : Int) ∧ lv = .slice v.A v.n v.c ∧ sv = .string t ∧ t.data.toList = jrnL (E.take k) 1 ∧ OwF wr v ((E.take k).foldl rstep []) ∧ Fresh W.heap.size wr (fpF v) ∧ Below w1.heap.size w1 wr) (fun _ _ iv _ => n0 - (intOf iv).toNat)
  case atStart => exact ⟨0, ⟨some ⟨w1.heap.size, 0, none⟩, 0, 0⟩, ⟨#[]⟩, Nat.zero_le _, rfl, rfl, rfl, rfl, hl0.zero, (Fresh.obl_ hl0).rebase (by omega), bAlloc (Below.refl _ _) _⟩
  case round =>
    obtain ⟨k, v, t, hk, rfl, rfl, rfl, ht, ho, hf, hbr⟩ := hrel
    have HB := Lib.hid (bTrans hb1 hbr)
    have HO := Lib.hid ho
    have HF := Lib.hid hf
    have hzr := hbr.size
    have htk : ∀ e ∈ E.take k, vldEntry e = true := fun e he => HV.out e (List.mem_of_mem_take he)
    have hts : t.size ≤ 6400 := by
      have h1 := jrnL_len (E.take k) 1 htk (by decide)
      rw [← ht, bsize, List.length_take] at h1
      omega
    clear ho hf hl0
    by_cases hlt : k < n0
    · obtain ⟨EN, g, off, hx, rfl, g0, g1, g2, g3, g4, g5, g6, g7, g8, g9⟩ := RowN.at_ (Row.below HRE.out hbr) hlt
      have hst := take_step (f := rstep) (b := []) hx.out
      have hrp := rpok_fold (E.take k) [] RpOk.nil
      have hve := HV.out _ (List.mem_of_getElem? hx.out)
      obtain ⟨a1, a2⟩ := ap_step HV.out h16 hx.out ht
      generalize (E.take k).foldl rstep [] = l at hst hrp HO
      have HST := Lib.hid hst
      have HRP := Lib.hid hrp
      have hes := ent_small hve
      have HES := Lib.hid hes.1
      have SL := Own.slOk (v := v) HO.out
      have hA2 : apE t EN = ((apE t EN).1, true) := by rw [← a1]
      obtain ⟨u, hu⟩ : ∃ u, u = (apE t EN).1 := ⟨_, rfl⟩
      rw [← hu] at a2 hA2
      have HAP := Lib.hid hA2
      have HU := Lib.hid a2
      have HVE := Lib.hid hve
      clear hst hrp hve hes a1 a2 hA2 hu hx ht htk
      obtain ⟨rm, eid, ⟨fi, fk, ff, ft, ⟨pt, px, py⟩, fw⟩⟩ := EN
      dsimp only at g0 g1 g2 g3 g4 g5 g6 g7 g8 g9
      have BX := Lib.hid (Bk.new wr [.bool rm, .int .i64 eid, .int .i64 fi, .int .i64 fk, .string ff, .string ft, .int .i64 pt, .int .i64 px, .int .i64 py, .int .i64 fw] 62 _ rfl)
      have hal : Below wr.heap.size wr (wr.alloc (.cells #[.bool rm, .int .i64 eid, .int .i64 fi, .int .i64 fk, .string ff, .string ft, .int .i64 pt, .int .i64 px, .int .i64 py, .int .i64 fw] 62)) := bAlloc (Below.refl _ _) _
      obtain ⟨k1, k2, k3, k4⟩ := HES.out
      dsimp only at k1 k2 k3 k4
      go_wp2_with fail
      refine Calls.mono (impl_AppendEntry_c t rm eid fi fk ff ft pt px py fw _ (by omega) ⟨k3, k4⟩ k1 k2 (HT.out.below (bAlloc HB.out _))) ?_
      rw [HAP.out]
      rintro e w2 ⟨rfl, hb2⟩
      have BX2 := Lib.hid (BX.out.below hb2)
      have HB2 := Lib.hid (bTrans (bAlloc HB.out (.cells #[.bool rm, .int .i64 eid, .int .i64 fi, .int .i64 fk, .string ff, .string ft, .int .i64 pt, .int .i64 px, .int .i64 py, .int .i64 fw] 62)) hb2)
      have hal2 := bTrans hal hb2
      have HO2 := Lib.hid (HO.out.below hal2)
      have hz2 := hal2.size
      clear hb2 BX HO
      cases rm with
      | true =>
        have HE := Lib.hid (show rstep l ⟨true, eid, ⟨fi, fk, ff, ft, ⟨pt, px, py⟩, fw⟩⟩ = (removeF l eid).1 from rfl)
        have q0 := BX2.out.bx.cells 0 _ rfl; have q1 := BX2.out.bx.cells 1 _ rfl; have q2 := BX2.out.bx.cells 2 _ rfl; have q3 := BX2.out.bx.cells 3 _ rfl; have q4 := BX2.out.bx.cells 4 _ rfl; have q5 := BX2.out.bx.cells 5 _ rfl; have q6 := BX2.out.bx.cells 6 _ rfl; have q7 := BX2.out.bx.cells 7 _ rfl; have q8 := BX2.out.bx.cells 8 _ rfl; have q9 := BX2.out.bx.cells 9 _ rfl
        go_wp2_with fail
        refine Calls.mono (impl_RemoveFactor_k v l eid _ HRP.out.few HRP.out.small SL HO2.out.rd) ?_
        rintro e w3 ⟨v3, rfl, ho3, hf3, hb3⟩
        have hb3' := bTrans hal2 hb3
        have hz3 := HB2.out.size
        go_wp2_with fail
        exact ⟨⟨k + 1, v3, u, by omega, by simp, rfl, rfl, HU.out, by rw [HST.out, HE.out]; exact ho3, hf3.rebase (by omega), bTrans hbr hb3'⟩, by simp only [intOf]; omega⟩
      | false =>
        have HE := Lib.hid (show rstep l ⟨false, eid, ⟨fi, fk, ff, ft, ⟨pt, px, py⟩, fw⟩⟩ = (addF l ⟨fi, fk, ff, ft, ⟨pt, px, py⟩, fw⟩).1 from rfl)
        have q0 := BX2.out.bx.cells 0 _ rfl; have q1 := BX2.out.bx.cells 1 _ rfl; have q2 := BX2.out.bx.cells 2 _ rfl; have q3 := BX2.out.bx.cells 3 _ rfl; have q4 := BX2.out.bx.cells 4 _ rfl; have q5 := BX2.out.bx.cells 5 _ rfl; have q6 := BX2.out.bx.cells 6 _ rfl; have q7 := BX2.out.bx.cells 7 _ rfl; have q8 := BX2.out.bx.cells 8 _ rfl; have q9 := BX2.out.bx.cells 9 _ rfl
        go_wp2_with fail
        refine Calls.mono (impl_AddFactor_k v l ⟨fi, fk, ff, ft, ⟨pt, px, py⟩, fw⟩ _ HRP.out.few HRP.out.small ⟨k1, k2⟩ SL HO2.out.rd) ?_
        rintro e w3 ⟨v3, rfl, ho3, hf3, hb3⟩
        have hb3' := bTrans hal2 hb3
        have hz3 := HB2.out.size
        go_wp2_with fail
        exact ⟨⟨k + 1, v3, u, by omega, by simp, rfl, rfl, HU.out, by rw [HST.out, HE.out]; exact ho3, hf3.rebase (by omega), bTrans hbr hb3'⟩, by simp only [intOf]; omega⟩
    · obtain rfl : k = n0 := by omega
      have hkk : ¬ (k : Int) < (k : Int) := by omega
      have hTE : E.take k = E := List.take_of_length_le (by omega)
      rw [hTE] at ht HO htk
      have hj : jrnOf E = t := bext (by rw [jrnOf_data htk (by omega), ht])
      have HJ := Lib.hid hj
      obtain ⟨r1, r2, r3⟩ := rd_of htk (by omega) ht
      have hrpl : rpl t = E.foldl rstep [] := by unfold rpl; rw [r1]
      have HRPL := Lib.hid hrpl
      have hpos2 : 0 < t.size := by
        have := jrnL_ne (l := E) (p := 1) (by intro h; rw [h] at hpos; simp at hpos) htk (by decide)
        rw [← ht, bsize] at this; exact this
      have hposI : (0 : Int) < (t.size : Int) := by omega
      have HNE := rpok_fold E [] RpOk.nil
      generalize E.foldl rstep [] = l at HO HRPL HNE
      have HRP := Lib.hid HNE
      have HL : Hid (l.length = v.n) := HO.out.rd.len
      have hl40 : v.n ≤ 40 := by have h : l.length = v.n := HL.out; have := HRP.out.2; omega
      clear ht htk hTE hj r1 r2 r3 hrpl HNE
      go_wp2_with fail
      refine Calls.mono (impl_JournalOf_k ⟨A0, k, c0⟩ E _ hbk.out hok.out (Row.below HRE.out hbr) (HT.out.below HB.out).1.tab) ?_
      rw [HJ.out]
      rintro e w2 ⟨rfl, hb2⟩
      have HB2 := Lib.hid (bTrans HB.out hb2)
      have HO2 := Lib.hid (HO.out.below hb2)
      clear hb2
      go_wp2_with fail
      refine Calls.mono (impl_ReplayJournal_k t _ (by omega) (HT.out.below HB2.out)) ?_
      rw [HRPL.out]
      rintro e w3 ⟨v3, rfl, ho3, hf3, hb3⟩
      have HB3 := Lib.hid (bTrans HB2.out hb3)
      have HO3 := Lib.hid (HO2.out.below hb3)
      have HL3 : Hid (l.length = v3.n) := ho3.rd.len
      go_wp2_with fail
      refine Calls.mono (impl_SameFactors_c v3.A v.A v3.n v.n v3.c v.c l l _ (by have h : l.length = v3.n := HL3.out; have h2 : l.length = v.n := HL.out; omega) (by omega) ho3.rd HO3.out.rd) ?_
      rw [sameL_reflR]
      rintro e w4 ⟨rfl, hb4⟩
      have HB4 := Lib.hid (bTrans HB3.out hb4)
      go_wp2_with fail
      go_ret
      exact ⟨rfl, HB4.out⟩
end Go.Proofs.YtebcdjpddoaajaaDoor

/- A slice of bytes among the arguments, opened. -/
namespace Go.Proofs.YtebcdjpddoaajaaDoor
open Go.ChangeShapes Go.WideShapes Go.ChangeAt Go.RowKit Go.Deep
def gU8 (cs : List Value) : Prop := ∃ n : Int, cs = [.int .u8 n] ∧ (Lit.int .u8 n).wf = true
theorem opens_u8 (w : World) : Opens Tryd.prog w 5 gU8 := fun H enc base fuel spare held cs x h => by
  obtain ⟨n, rfl, _, hw⟩ := DataW.trod_int Tryd.underlying5 h
  exact ⟨n, rfl, hw⟩
theorem cells_u8 : Tryd.prog.cellsOf 5 = 1 := by kernel_rfl
theorem opens_bytes (w : World) : Opens Tryd.prog w 22 (gSlice w 1 gU8) := opens_slice Tryd.underlying22 cells_u8 (opens_u8 w) (by omega)
theorem bytes_of {w : World} {cs : List Value} (h : gSlice w 1 gU8 cs) : ∃ A n c, cs = [.slice A n c] ∧ n ≤ maxLen ∧ Bytes w A n := by
  obtain ⟨A, n, c, css, rfl, h1, h2, h3, h4⟩ := h
  refine ⟨A, n, c, rfl, by omega, fun i hi => ?_⟩
  have hl : css.length = n := h3.1
  have hi' : i < css.length := by omega
  obtain ⟨_, x, hx, hw⟩ := h4 css[i] (List.getElem_mem hi')
  obtain ⟨g, off, hA, hc⟩ := h3.2 i css[i] (List.getElem?_eq_getElem hi')
  have hr : 0 ≤ x ∧ x ≤ 255 := by
    simp [Lit.wf, IntKind.min, IntKind.max, IntKind.signed, IntKind.bits] at hw
    omega
  exact ⟨g, off, x, hA, hr.1, hr.2, by have := hc 0 (.int .u8 x) (by rw [hx]; rfl); simpa using this⟩
end Go.Proofs.YtebcdjpddoaajaaDoor
