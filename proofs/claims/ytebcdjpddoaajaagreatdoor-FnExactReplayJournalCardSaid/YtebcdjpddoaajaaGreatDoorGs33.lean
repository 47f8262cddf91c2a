/- Texts of this proof, one behind the other: PsJrnS. -/
import Derived.Test.YtebcdjpddoaajaaGreatDoorGs30
import Derived.Test.YtebcdjpddoaajaaGreatDoorGs31
import Derived.Test.YtebcdjpddoaajaaGreatDoorGs32
/- A journal read: the reference's; ReadJournal of both. -/
namespace Go.Proofs.YtebcdjpddoaajaaGreatDoor
open Go.RowKit
set_option linter.unusedVariables false
set_option linter.unusedSimpArgs false
set_option maxHeartbeats 4000000
set_option maxRecDepth 100000

theorem spec_l27Read_c (s : ByteArray) (w : World) (hs : s.size ≤ 1048576) : Calls Tryz.prog 48 #[.string s] w fun e w' => RjPost w s e w' := by
  obtain ⟨i0, hii, hq0, hq1, hq2⟩ := info_parts info_EntryJ
  have hsl := bsize s
  have HSL := Lib.hid hsl
  clear hsl
  go_enter Tryz.func48, Tryz.ntmps48
  go_wp2_with fail
  go_loopw [5, 6, 7] (fun lv nv qv wr => ∃ (l : List Entry) (A : Option Addr) (c n : Nat) (q : Int), lv = .slice A l.length c ∧ nv = .int .i64 (n : Int) ∧ qv = .int .i64 q ∧ RjInv s.data.toList l n q ∧ inR q 0 65520 = true ∧ Own wr w.heap.size 46 10 A l.length c (l.map Entry.cells) ∧ Below w.heap.size w wr) (fun lv _ _ _ => 60 - lenV lv)
  case atStart => exact ⟨[], _, 0, 0, 1, rfl, rfl, rfl, RjInv.start _, by decide, Own.made0 w _ 10 (Nat.le_refl _), bAlloc (Below.refl _ _) _⟩
  case round =>
    obtain ⟨l, A, c, n, q, rfl, rfl, rfl, hi, hq, ho, hb⟩ := hrel
    have HI := Lib.hid hi
    have HO := Lib.hid ho
    have HB := Lib.hid hb
    have HQ := Lib.hid hq
    have hl60 := hi.1
    have hns : n ≤ s.size := by have := hi.2.1; have := HSL.out; omega
    have hn0 : (0 : Int) ≤ (n : Int) := by omega
    have hn1 : (n : Int) ≤ (s.size : Int) := by omega
    clear hi ho hb hq
    by_cases hlt : l.length < 60
    · have hltI : (l.length : Int) < 60 := by omega
      go_wp2_with fail
      go_loopw [8] (fun ev wr2 => ∃ (j : Nat), ev = .int .i64 (j : Int) ∧ n ≤ j ∧ j ≤ s.size ∧ (∀ x ∈ (s.data.toList.drop n).take (j - n), isB 10 x = false) ∧ wr2 = wr) (fun ev _ => s.size - (intOf ev).toNat)
      case atStart => exact ⟨n, rfl, Nat.le_refl _, hns, by simp, rfl⟩
      case round =>
        obtain ⟨j, rfl, hnj, hjs, hno, rfl⟩ := hrel
        have HNO := Lib.hid hno
        clear hno
        have hj0 : (0 : Int) ≤ (j : Int) := by omega
        by_cases hjl : j < s.size
        · have hj1 : (j : Int) < (s.size : Int) := by omega
          by_cases hc : s[j] = 10
          · have hcI : (s[j].toNat : Int) = 10 := by rw [hc]; rfl
            obtain ⟨ln, hln⟩ : ∃ ln, ln = (s.data.toList.drop n).take (j - n) := ⟨_, rfl⟩
            obtain ⟨t, ht⟩ : ∃ t, t = s.data.toList.drop (j + 1) := ⟨_, rfl⟩
            have h1 : s.data.toList.drop n = ln ++ 10 :: t := by
              have e1 := sdrop s hjl
              rw [hc, ← ht] at e1
              have e2 := (List.take_append_drop (j - n) (s.data.toList.drop n)).symm
              rw [List.drop_drop, show n + (j - n) = j by omega, e1, ← hln] at e2
              exact e2
            have hlnl : ln.length = j - n := by
              rw [hln, List.length_take, List.length_drop, HSL.out]; omega
            have hL1 : (s.extract n j).data.toList = ln := by rw [ext_list, hln]
            have hL2 : (s.extract n (j + 1)).data.toList = ln ++ [10] := by
              rw [ext_list, h1, show j + 1 - n = ln.length + 1 by omega]
              simp [List.take_append, List.take_of_length_le]
            have hz1 : (s.extract n j).size ≤ s.size := by
              have := bsize (s.extract n j)
              rw [hL1] at this; omega
            have H2 := Lib.hid (show ∀ x ∈ ln, isB 10 x = false by rw [hln]; exact HNO.out)
            have H1 := Lib.hid h1
            have HL1 := Lib.hid hL1
            have HL2 := Lib.hid hL2
            have HLN := Lib.hid hlnl
            have hne : ¬ (j : Int) = (s.size : Int) := by omega
            have hneb : ((j : Int) == (s.size : Int)) = false := by simp only [beq_eq_false_iff_ne]; omega
            have hnjI : (n : Int) ≤ (j : Int) := by omega
            have hnjI1 : (n : Int) ≤ (j : Int) + 1 := by omega
            have hj1s : (j : Int) + 1 ≤ (s.size : Int) := by omega
            clear hln ht h1 hlnl hL1 hL2 hc
            go_wp2_with fail
            refine Calls.mono (spec_l27Entry_c (s.extract n j) _ (by omega)) ?_
            rintro e w2_ ⟨en, rfl, hok, hres, hb2⟩
            rw [HL1.out] at hres
            obtain ⟨rm, eid, ⟨fi, fk, ff, ft, ⟨pt, px, py⟩, fw⟩⟩ := en
            rw [show vEntryE ⟨rm, eid, ⟨fi, fk, ff, ft, ⟨pt, px, py⟩, fw⟩⟩ = vEntry rm eid fi fk ff ft pt px py fw from rfl]
            obtain ⟨k1, k2, k3, k4⟩ := hok
            have HB2 := Lib.hid (bTrans HB.out hb2)
            have HO2 := Lib.hid (HO.out.below hb2)
            have BXE := Lib.hid (Bk.new w2_ [.bool rm, .int .i64 eid, .int .i64 fi, .int .i64 fk, .string ff, .string ft, .int .i64 pt, .int .i64 px, .int .i64 py, .int .i64 fw] 46 _ rfl)
            clear hb2
            by_cases hEnt : EntOf ln q ⟨rm, eid, ⟨fi, fk, ff, ft, ⟨pt, px, py⟩, fw⟩⟩
            · obtain ⟨y1, y2, y3, y4, y5⟩ := line_yes (t := t) HL2.out hEnt
              rw [← H1.out] at y3
              have hnx := HI.out.next hlt y3
              rw [y4, HLN.out, show n + (j - n + 1) = j + 1 by omega] at hnx
              have HNX := Lib.hid hnx
              have HY1 := Lib.hid y1
              have hqn := entSum_in ⟨rm, eid, ⟨fi, fk, ff, ft, ⟨pt, px, py⟩, fw⟩⟩ q
              have HQN := Lib.hid hqn
              rw [y1] at y2 y5
              simp only at y2 y5
              obtain ⟨line, hline⟩ : ∃ x, x = entT ⟨rm, eid, ⟨fi, fk, ff, ft, ⟨pt, px, py⟩, fw⟩⟩ q := ⟨_, rfl⟩
              obtain ⟨sm, hsm⟩ : ∃ x, x = entSum ⟨rm, eid, ⟨fi, fk, ff, ft, ⟨pt, px, py⟩, fw⟩⟩ q := ⟨_, rfl⟩
              rw [← hsm] at HNX HQN
              rw [← hline] at y2 y5
              rw [← hline, ← hsm] at HY1
              clear y1 y3 y4 hEnt hres hqn hline hsm hnx
              go_wp2_with (first
                | (go_at_call 75; refine (spec_FormatEntry_c rm eid fi fk ff ft pt px py fw q _ ⟨k3, k4⟩ k1 k2).mono ?_; rw [HY1.out]; rintro e w3_ ⟨rfl, hb3⟩; have bx3 := BXE.out.below hb3; have r0 := bx3.bx.cells 0 _ rfl; have r1 := bx3.bx.cells 1 _ rfl; have r2 := bx3.bx.cells 2 _ rfl; have r3 := bx3.bx.cells 3 _ rfl; have r4 := bx3.bx.cells 4 _ rfl; have r5 := bx3.bx.cells 5 _ rfl; have r6 := bx3.bx.cells 6 _ rfl; have r7 := bx3.bx.cells 7 _ rfl; have r8 := bx3.bx.cells 8 _ rfl; have r9 := bx3.bx.cells 9 _ rfl)
                | (at_builtin; refine wpList_append rfl (.tmp 61) (.tmp 63) 53 rfl w.heap.size 46 10 96 i0 _ Tryz.underlying53 hii hq0 hq1 hq2 rfl (by omega) A l.length c (l.map Entry.cells) rfl ((((HO2.out.alloc_ _).below hb3)).alloc_ _) _ 1 1 [Entry.cells ⟨rm, eid, ⟨fi, fk, ff, ft, ⟨pt, px, py⟩, fw⟩⟩] rfl (Row.new1' _ _ _ 10 _ (by simp)) (by simp [Entry.cells, Factor.cells]) (by simp [Entry.cells, Factor.cells, Value.oneCell']) (by simp only [maxLen]; omega) (by omega) (by have := HB2.out.size; have := hb3.size; simp at *; omega) ?_; intro A5 c5 w5_ ho5 hg5 hat5))
              exact ⟨⟨l ++ [⟨rm, eid, ⟨fi, fk, ff, ft, ⟨pt, px, py⟩, fw⟩⟩], A5, c5, j + 1, sm, by simp, by simp, rfl, HNX.out, HQN.out, by rw [List.length_append, List.map_append]; exact ho5, bGrown (bAlloc (bTrans (bAlloc HB2.out _) hb3) _) hg5 (fun q hq => (HO2.out.lt q hq).1)⟩, by simp [lenV]; omega⟩
            · obtain ⟨z1, z2⟩ := line_no (t := t) (ok := true) H2.out HL2.out (fun p g h => ⟨hres p g h, rfl⟩) (fun h => hEnt h.1)
              rw [← H1.out] at z1
              have HS := Lib.hid (HI.out.stop z1)
              have z3 := z2 rfl
              obtain ⟨fe, hfe⟩ : ∃ x, x = fmtEnt ⟨rm, eid, ⟨fi, fk, ff, ft, ⟨pt, px, py⟩, fw⟩⟩ q := ⟨_, rfl⟩
              have HY1 := Lib.hid hfe
              rw [← hfe] at z3
              clear z1 z2 hres hEnt hfe
              obtain ⟨line, sm⟩ := fe
              simp only at z3
              cases hemp : line.toList.isEmpty
              all_goals
                go_wp2_with (go_at_call 75; refine (spec_FormatEntry_c rm eid fi fk ff ft pt px py fw q _ ⟨k3, k4⟩ k1 k2).mono ?_; rw [← HY1.out]; rintro e w3_ ⟨rfl, hb3⟩)
                refine bodyPost_ret (v := .tuple #[.slice A l.length c, .int .i64 (n : Int), .int .i64 q]) (by simp [*, results, Tryz.results48, go_sem]) rfl ⟨⟨A, l.length, c⟩, by rw [HS.out], ?_, Fresh.obl_ ((HO2.out.alloc_ _).below hb3), bTrans (bAlloc HB2.out _) hb3⟩
                rw [HS.out]; exact ((HO2.out.alloc_ _).below hb3).zero
          · have hcI : ¬ (s[j].toNat : Int) = 10 := by
              intro h
              exact hc (UInt8.toNat_inj.1 (by rw [show (10 : UInt8).toNat = 10 from rfl]; omega))
            have hcB : ((s[j].toNat : Int) == 10) = false := by simpa using hcI
            have HNX := Lib.hid (show ∀ x ∈ (s.data.toList.drop n).take (j + 1 - n), isB 10 x = false by
              have hb : s.data.toList[j]? = some s[j] := by
                have hk' : j < s.data.toList.length := by rw [HSL.out]; exact hjl
                rw [List.getElem?_eq_getElem hk']; rfl
              rw [← take_more hnj hb]
              intro x hx
              rcases List.mem_append.1 hx with hx | hx
              · exact HNO.out x hx
              · rw [List.mem_singleton.1 hx]; unfold isB; simpa using hc)
            clear hc
            go_wp2_with fail
            exact ⟨⟨j + 1, by simp, by omega, by omega, HNX.out, by first | trivial | rfl⟩, by simp only [intOf]; omega⟩
        · obtain rfl : j = s.size := by omega
          have HS := Lib.hid (HI.out.stop (no_pfx (q := 0) (by
            have h := HNO.out
            rw [List.take_of_length_le (by rw [List.length_drop, HSL.out]; omega)] at h
            exact h)))
          have hss : ¬ (s.size : Int) < (s.size : Int) := by omega
          go_wp2_with fail
          refine bodyPost_ret (v := .tuple #[.slice A l.length c, .int .i64 (n : Int), .int .i64 q]) (by simp [*, results, Tryz.results48, go_sem]) rfl ⟨⟨A, l.length, c⟩, by rw [HS.out], ?_, Fresh.obl_ HO.out, HB.out⟩
          rw [HS.out]; exact HO.out.zero
    · have hl : l.length = 60 := by omega
      have HS := Lib.hid (HI.out.full hl)
      have hlI : ¬ (l.length : Int) < 60 := by omega
      go_wp2_with fail
      refine bodyPost_ret (v := .tuple #[.slice A l.length c, .int .i64 (n : Int), .int .i64 q]) (by simp [*, results, Tryz.results48, go_sem]) rfl ⟨⟨A, l.length, c⟩, by rw [HS.out], ?_, Fresh.obl_ HO.out, HB.out⟩
      rw [HS.out]; exact HO.out.zero
/-- the entries that a journal reads as, and the bytes they take -/
noncomputable def rdE (s : ByteArray) : List Entry := (rdj 60 s.data.toList 1).1
noncomputable def rdN (s : ByteArray) : Nat := (rdj 60 s.data.toList 1).2.1
noncomputable def rdQ (s : ByteArray) : Int := (rdj 60 s.data.toList 1).2.2
theorem impl_ReadJournal_k (s : ByteArray) (w : World) (hs : s.size ≤ 1048576) (hT : TabJ w) : Calls Tryz.prog 24 #[.string s] w fun e w' => ∃ v : Sv, e = .returned (.tuple #[.slice v.A v.n v.c, .int .i64 (rdN s : Int)]) ∧ OwN w' v (rdE s) ∧ Fresh w.heap.size w' (fpN v) ∧ Below w.heap.size w w' := by
  go_enter Tryz.func24, Tryz.ntmps24
  go_wp2_with fail
  refine Calls.mono (impl_readJournal_c s _ hs hT) ?_
  rintro e w1 ⟨v, rfl, ho, hf, hb⟩
  go_wp2_with fail
  refine bodyPost_ret (v := .tuple #[.slice v.A v.n v.c, .int .i64 (rdN s : Int)]) (by simp [*, rdN, results, Tryz.results24, go_sem]) rfl ⟨v, rfl, ho, hf, hb⟩
theorem spec_ReadJournal_k (s : ByteArray) (w : World) (hs : s.size ≤ 1048576) : Calls Tryz.prog 21 #[.string s] w fun e w' => ∃ v : Sv, e = .returned (.tuple #[.slice v.A v.n v.c, .int .i64 (rdN s : Int)]) ∧ OwN w' v (rdE s) ∧ Fresh w.heap.size w' (fpN v) ∧ Below w.heap.size w w' := by
  go_enter Tryz.func21, Tryz.ntmps21
  go_wp2_with fail
  refine Calls.mono (spec_l27Read_c s _ hs) ?_
  rintro e w1 ⟨v, rfl, ho, hf, hb⟩
  go_wp2_with fail
  refine bodyPost_ret (v := .tuple #[.slice v.A v.n v.c, .int .i64 (rdN s : Int)]) (by simp [*, rdN, results, Tryz.results21, go_sem]) rfl ⟨v, rfl, ho, hf, hb⟩
theorem rdj_few : ∀ (k : Nat) (r : List UInt8) (p : Int), (rdj k r p).1.length ≤ k
  | 0, _, _ => Nat.le_refl _
  | k + 1, r, p => by
    rw [rdj]
    split
    · simp
    · rename_i e _
      have := rdj_few k (r.drop (entT e p).size) (entSum e p)
      simp; omega
theorem few_rdE (s : ByteArray) : fewN (rdE s) := by
  have := rdj_few 60 s.data.toList 1
  show (rdj 60 s.data.toList 1).1.length ≤ 1048576
  omega
end Go.Proofs.YtebcdjpddoaajaaGreatDoor
