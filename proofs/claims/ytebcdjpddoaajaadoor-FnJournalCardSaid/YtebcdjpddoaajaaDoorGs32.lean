/- Texts of this proof, one behind the other: WJournal. -/
import Derived.Lib.QuietBelow
import Derived.BigQuiet
import Derived.Test.YtebcdjpddoaajaaDoorGs22
import Derived.Test.YtebcdjpddoaajaaDoorGs26
import Derived.Test.YtebcdjpddoaajaaDoorGs30
/- The walk of the law FnJournal. -/
namespace Go.Proofs.YtebcdjpddoaajaaDoor
open Go.RowKit
set_option linter.unusedVariables false
set_option linter.unusedSimpArgs false
set_option maxHeartbeats 4000000
set_option maxRecDepth 100000
theorem CutJournal_c (s : ByteArray) (k : Nat) (w : World) (hs : s.size ≤ 1048576) (hk : k ≤ s.size) : Calls Tryd.prog 29 #[.string s, .int .i64 (k : Int)] w fun e w' => e = .returned (.string (s.extract 0 k)) ∧ Below w.heap.size w w' := by
  have hk0 : (0 : Int) ≤ (k : Int) := by omega
  have hk1 : (k : Int) ≤ (s.size : Int) := by omega
  have hk2 : max (k : Int) 0 = (k : Int) := by omega
  have hk3 : min (k : Int) (s.size : Int) = (k : Int) := by omega
  go_enter Tryd.func29, Tryd.ntmps29
  go_wp2
  go_ret
  exact ⟨rfl, Below.refl _ _⟩
theorem cut_rd {s cut : ByteArray} {E : List Entry} {k : Nat} (h : ∀ e ∈ E, vldEntry e = true) (hl : E.length ≤ 16) (hs : s.data.toList = jrnL E 1) (hc : cut = s.extract 0 k) (hk : k ≤ s.size) :
    ∃ m, m ≤ E.length ∧ rdE cut = E.take m ∧ rdN cut ≤ k ∧ rdN cut ≤ s.size ∧ jrnOf (E.take m) = s.extract 0 (rdN cut) := by
  obtain ⟨m, hm, hr, hlen, _⟩ := rdj_take E 1 60 k h (by decide) (by omega)
  have hd : cut.data.toList = (jrnL E 1).take k := by rw [hc, ext_list, hs]; simp
  rw [← hd] at hr
  have e1 : rdE cut = E.take m := by unfold rdE; rw [hr]
  have e2 : rdN cut = (jrnL (E.take m) 1).length := by unfold rdN; rw [hr]
  refine ⟨m, hm, e1, by rw [e2]; exact hlen, by rw [e2]; omega, ?_⟩
  apply bext
  rw [jrnOf_data (fun e he => h e (List.mem_of_mem_take he)) (by rw [List.length_take]; omega), ext_list, hs, e2]
  simp only [List.drop_zero, Nat.sub_zero]
  exact (jrnL_take E 1 m).symm
theorem w_FnJournal (W : World) (A : Option Addr) (n c : Nat) (hm : n ≤ maxLen) (hy : Bytes W A n) (hT : TabJ W) :
    Calls Tryd.prog 5 #[.slice A n c] W fun e w' => e = rBool true ∧ Below W.heap.size W w' := by
  by_cases hn : n ≤ 1048576
  rotate_left
  · have hn' : (1048576 : Int) < (n : Int) := by omega
    go_enter Tryd.func5, Tryd.ntmps5
    go_wp2
    go_ret
    exact ⟨rfl, Below.refl _ _⟩
  have hn' : decide ((1048576 : Int) < (n : Int)) = false := by simp; omega
  have hy' := Lib.hid hy
  have HT := Lib.hid hT
  clear hy hm hT
  go_enter Tryd.func5, Tryd.ntmps5
  go_wp2_with fail
  refine Calls.mono (MakeEntries_c (W := W) (c := c) (Below.refl _ _) hy'.out hn) ?_
  rintro e w1 ⟨ve, E, rfl, hv, hpos, h16, hoe, hfe, hb1⟩
  have HV := Lib.hid hv
  have HRE := Lib.hid hoe.rd
  have hlen : E.length = ve.n := by have := hoe.rd.1; simpa using this
  have hbk : ∀ m, bulkN (E.take m) ≤ 1048576 := fun m => by
    have := ents_bulk (E.take m) (fun e he => hv e (List.mem_of_mem_take he))
    have h2 := List.length_take_le m E
    have h3 : (E.take m).length ≤ E.length := by rw [List.length_take]; omega
    unfold bulkN; omega
  have hok : ∀ m, okN (E.take m) := fun m e he => ⟨(ent_small (hv e (List.mem_of_mem_take he))).2.2.1, (ent_small (hv e (List.mem_of_mem_take he))).2.1⟩
  have hall : E.take E.length = E := List.take_length
  obtain ⟨A0, n0, c0⟩ := ve
  simp only at hlen HRE
  obtain ⟨s, hse⟩ : ∃ s, s = jrnOf E := ⟨_, rfl⟩
  have hsd : s.data.toList = jrnL E 1 := by rw [hse, jrnOf_data hv (by omega)]
  have hss : s.size ≤ 6400 := by
    have h1 := jrnL_len E 1 hv (by decide)
    rw [← hsd, bsize] at h1; omega
  have hs0 : s.toList.isEmpty = false := by
    have := jrnL_ne (l := E) (p := 1) (by intro h; rw [h] at hpos; simp at hpos) hv (by decide)
    rw [ByteArray.toList_eq, hsd]
    cases hj : jrnL E 1 with
    | nil => rw [hj] at this; simp at this
    | cons a l => rfl
  obtain ⟨q1, q2, _⟩ := rd_of hv (by omega) hsd
  have HQ1 := Lib.hid q1; have HQ2 := Lib.hid q2; have HSD := Lib.hid hsd; have HSE := Lib.hid hse; have HBK := Lib.hid hbk; have HOK := Lib.hid hok
  have HBE := Lib.hid (show bulkN E ≤ 1048576 by have := hbk E.length; rw [hall] at this; exact this)
  have HOE := Lib.hid (show okN E by have := hok E.length; rw [hall] at this; exact this)
  clear hoe hfe hv hbk hok hall hse hsd q1 q2
  go_wp2_with fail
  refine Calls.mono (impl_JournalOf_k ⟨A0, n0, c0⟩ E _ HBE.out HOE.out HRE.out (HT.out.below hb1).1.tab) ?_
  rw [← HSE.out]
  rintro e w2 ⟨rfl, hb2⟩
  have H2 := Lib.hid (bTrans hb1 hb2)
  have HRE2 := Lib.hid (Row.below HRE.out hb2)
  clear hb1 hb2 HRE
  go_wp2_with fail
  refine Calls.mono (MakeNum_c (W := W) (w := w2) (c := c) H2.out hy'.out hn) ?_
  rintro e w3 ⟨x, rfl, hx0, hx1, hb3⟩
  have H3 := Lib.hid (bTrans H2.out hb3)
  have HRE3 := Lib.hid (Row.below HRE2.out hb3)
  clear hb3 H2 HRE2
  obtain ⟨k, hk, hks⟩ : ∃ k : Nat, x.tmod ((s.size : Int) + 1) = (k : Int) ∧ k ≤ s.size := by
    have h0 : 0 ≤ x.tmod ((s.size : Int) + 1) := Int.tmod_nonneg _ hx0
    have h1 : x.tmod ((s.size : Int) + 1) < (s.size : Int) + 1 := Int.tmod_lt_of_pos _ (by omega)
    exact ⟨(x.tmod ((s.size : Int) + 1)).toNat, by omega, by omega⟩
  have hsz0 : ¬ (s.size : Int) + 1 = 0 := by omega
  obtain ⟨cut, hcut⟩ : ∃ c, c = s.extract 0 k := ⟨_, rfl⟩
  obtain ⟨m, hmE, c1, c2, c3, c4⟩ := cut_rd HV.out h16 HSD.out hcut hks
  have hcs : cut.size = k := by rw [hcut, ByteArray.size_extract]; omega
  obtain ⟨rn, hrn⟩ : ∃ r, r = rdN cut := ⟨_, rfl⟩
  rw [← hrn] at c2 c3 c4
  have HC1 := Lib.hid c1; have HC4 := Lib.hid c4; have HRN := Lib.hid hrn; have HCUT := Lib.hid hcut
  clear c1 c4 hrn hcut
  go_wp2_with fail
  refine Calls.mono (CutJournal_c s k _ (by omega) hks) ?_
  rw [← HCUT.out]
  rintro e w4 ⟨rfl, hb4⟩
  have H4 := Lib.hid (bTrans H3.out hb4)
  have HRE4 := Lib.hid (Row.below HRE3.out hb4)
  clear hb4 H3 HRE3
  go_wp2_with fail
  refine Calls.mono (impl_ReadJournal_k cut _ (by omega) (HT.out.below H4.out)) ?_
  rw [HC1.out, ← HRN.out]
  rintro e w5 ⟨vr, rfl, hor, hfr, hb5⟩
  have H5 := Lib.hid (bTrans H4.out hb5)
  have HRE5 := Lib.hid (Row.below HRE4.out hb5)
  have HRR5 := Lib.hid hor.rd
  have hvr : (E.take m).length = vr.n := by have := hor.rd.1; simpa using this
  clear hb5 H4 HRE4 hor hfr
  go_wp2_with fail
  refine Calls.mono (impl_ReadJournal_k s _ (by omega) (HT.out.below H5.out)) ?_
  rw [HQ1.out, HQ2.out]
  rintro e w6 ⟨va, rfl, hoa, hfa, hb6⟩
  have H6 := Lib.hid (bTrans H5.out hb6)
  have HRE6 := Lib.hid (Row.below HRE5.out hb6)
  have HRR6 := Lib.hid (Row.below HRR5.out hb6)
  have hva : va.n = n0 := by have := hoa.rd.1; have h2 : E.length = va.n := by simpa using this
                             omega
  obtain ⟨Aa, na, ca⟩ := va
  simp only at hva
  subst hva
  obtain ⟨Ar, nr, cr⟩ := vr
  simp only at hvr HRR6 HRR5
  have hnr : nr ≤ na := by rw [List.length_take] at hvr; omega
  have hnr2 : nr = m := by rw [List.length_take] at hvr; omega
  have f1 : ¬ (rn : Int) < 0 := by omega
  have f2 : ¬ (k : Int) < (rn : Int) := by omega
  have f3 : ¬ (na : Int) < (nr : Int) := by omega
  subst hnr2
  have d1 : decide ((rn : Int) < 0) = false := decide_eq_false f1
  have d3n : decide (na < nr) = false := decide_eq_false (by omega)
  have d3 : decide ((na : Int) < (nr : Int)) = false := decide_eq_false f3
  have f4 : (0 : Int) ≤ (rn : Int) := by omega
  have f5 : (rn : Int) ≤ (s.size : Int) := by omega
  rw [← hcs] at f2
  have d2n : decide (cut.size < rn) = false := decide_eq_false (by omega)
  have d2 : decide ((cut.size : Int) < (rn : Int)) = false := decide_eq_false f2
  clear hcs
  have f6 : ((s.extract 0 rn).toList == (s.extract 0 rn).toList) = true := by simp
  clear hb6 H5 HRE5 HRR5 hoa hfa
  go_wp2_with fail
  refine region_at fun W8 hW => ?_
  have hwb : Below w6.heap.size w6 W8 := by rw [hW.out]; exact Below.refl _ _
  have cV : ∀ d os, Calls Tryd.prog 28 #[.slice Ar nr cr] (Go.Sort.grow (redrawn W8 d) os) fun e w2 => e = .returned (.string (s.extract 0 rn)) ∧ ∃ p : Regrown, w2 = Go.Sort.grow (redrawn W8 p.d) p.os := fun d os => Calls.regrown_of ((impl_JournalOf_k ⟨Ar, nr, cr⟩ (E.take nr) _ (HBK.out nr) (HOK.out nr) (Row.below HRR6.out (bTrans hwb (below_regrown W8 d os))) (HT.out.below (bTrans H6.out (bTrans hwb (below_regrown W8 d os)))).1.tab).mono (fun _ _ h => ⟨h.1.trans (by rw [HC4.out]), h.2⟩))
  clear hW
  refine wp_region_quiet_below (by kernel_rfl) (by kernel_rfl) ?_
  repeat (go_big_quiet_step (first | exact cV _ _))
  refine wpQuiet_nil ?_
  intro _ hw
  obtain ⟨⟨dq, osq⟩, hw⟩ := hw
  subst hw
  have hbq := bTrans hwb (below_regrown W8 dq osq)
  have H7 := Lib.hid (bTrans H6.out hbq)
  have HRE7 := Lib.hid (Row.below HRE6.out hbq)
  have HRR7 := Lib.hid (Row.below HRR6.out hbq)
  clear cV hwb hbq H6 HRE6 HRR6
  generalize Go.Sort.grow (redrawn W8 dq) osq = w7 at *
  go_wp2_with fail
  go_loopw [79] (fun iv wr => ∃ (j : Nat), iv = .int .i64 (j : Int) ∧ j ≤ nr ∧ Below w7.heap.size w7 wr) (fun iv _ => nr - (intOf iv).toNat)
  case atStart => exact ⟨0, rfl, Nat.zero_le _, Below.refl _ _⟩
  case round =>
    obtain ⟨j, rfl, hj, hbr⟩ := hrel
    by_cases hlt : j < nr
    · obtain ⟨EN, g, off, hx, hA, g0, g1, g2, g3, g4, g5, g6, g7, g8, g9⟩ := RowN.at_ (Row.below HRR7.out hbr) hlt
      obtain ⟨EN2, g', off', hx', hA', p0, p1, p2, p3, p4, p5, p6, p7, p8, p9⟩ := RowN.at_ (Row.below HRE7.out hbr) (k := j) (by omega)
      have hEE : EN2 = EN := by
        have h1 := hx.out; have h2 := hx'.out
        rw [List.getElem?_take] at h1
        rw [if_pos (by omega), h2] at h1
        exact Option.some.inj h1
      subst hEE
      (try simp only at hA hA')
      subst hA hA'
      clear hx hx'
      have hj0 : (0 : Int) ≤ (j : Int) := by omega
      have hj1 : (j : Int) < (nr : Int) := by omega
      have hj2 : (j : Int) < (na : Int) := by omega
      have l0 := cell_lt g0
      have l1 := cell_lt p0
      (try simp only at l0 l1)
      have hne1 : ¬ g = wr.heap.size := by omega
      have hne2 : ¬ g' = wr.heap.size := by omega
      have hal : Below wr.heap.size wr (wr.alloc (.cells #[.bool EN2.remove, .int .i64 EN2.id, .int .i64 EN2.factor.id, .int .i64 EN2.factor.kind, .string EN2.factor.frm, .string EN2.factor.to, .int .i64 EN2.factor.pose.turn, .int .i64 EN2.factor.pose.x, .int .i64 EN2.factor.pose.y, .int .i64 EN2.factor.weight] 62)) := bAlloc (Below.refl _ _) _
      have P0 := bCell hal p0; have P1 := bCell hal p1; have P2 := bCell hal p2; have P3 := bCell hal p3; have P4 := bCell hal p4; have P5 := bCell hal p5; have P6 := bCell hal p6; have P7 := bCell hal p7; have P8 := bCell hal p8; have P9 := bCell hal p9
      have BX := Bk.new wr [.bool EN2.remove, .int .i64 EN2.id, .int .i64 EN2.factor.id, .int .i64 EN2.factor.kind, .string EN2.factor.frm, .string EN2.factor.to, .int .i64 EN2.factor.pose.turn, .int .i64 EN2.factor.pose.x, .int .i64 EN2.factor.pose.y, .int .i64 EN2.factor.weight] 62 _ rfl; have B0 := BX.bx.cells 0 _ rfl; have B1 := BX.bx.cells 1 _ rfl; have B2 := BX.bx.cells 2 _ rfl; have B3 := BX.bx.cells 3 _ rfl; have B4 := BX.bx.cells 4 _ rfl; have B5 := BX.bx.cells 5 _ rfl; have B6 := BX.bx.cells 6 _ rfl; have B7 := BX.bx.cells 7 _ rfl; have B8 := BX.bx.cells 8 _ rfl; have B9 := BX.bx.cells 9 _ rfl
      go_wp2_with fail
      go_quiet (fail)
      go_wp2_with fail
      exact ⟨⟨j + 1, by simp, by omega, by repeat (first | with_reducible exact hbr | with_reducible refine bAlloc ?_ _ | with_reducible refine bDrew ?_ | with_reducible refine bDrewN ?_ _)⟩, by simp only [intOf]; omega⟩
    · obtain rfl : j = nr := by omega
      have hkk : ¬ (j : Int) < (j : Int) := by omega
      go_wp2_with fail
      go_ret
      exact ⟨rfl, bTrans H7.out hbr⟩
end Go.Proofs.YtebcdjpddoaajaaDoor
