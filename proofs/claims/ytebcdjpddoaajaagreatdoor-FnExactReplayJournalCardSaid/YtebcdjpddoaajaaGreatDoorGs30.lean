/- Texts of this proof, one behind the other: PsJrn. -/
import Derived.Test.YtebcdjpddoaajaaGreatDoorGs9
import Derived.Test.YtebcdjpddoaajaaGreatDoorGs19
import Derived.Test.YtebcdjpddoaajaaGreatDoorGs29
/- A journal read: what the two answer; the program's. -/
namespace Go.Proofs.YtebcdjpddoaajaaGreatDoor
open Go.RowKit
set_option linter.unusedVariables false
set_option linter.unusedSimpArgs false
set_option maxHeartbeats 4000000
set_option maxRecDepth 100000

theorem info_EntryJ : (Tryz.prog.info? 46).map (fun i => (i.zero, i.size, i.bytes)) = some (some (.agg #[.bool false, .int .i64 0, .int .i64 0, .int .i64 0, .string ByteArray.empty, .string ByteArray.empty, .int .i64 0, .int .i64 0, .int .i64 0, .int .i64 0]), 10, 96) := by kernel_rfl
def lenV : Value → Nat | .slice _ n _ => n | _ => 0
def RjPost (w : World) (s : ByteArray) (e : Ending) (w' : World) : Prop :=
  ∃ v : Sv, e = .returned (.tuple #[.slice v.A v.n v.c, .int .i64 ((rdj 60 s.data.toList 1).2.1 : Int), .int .i64 (rdj 60 s.data.toList 1).2.2]) ∧ OwN w' v (rdj 60 s.data.toList 1).1 ∧ Fresh w.heap.size w' (fpN v) ∧ Below w.heap.size w w'
theorem idx_nl : ∀ r : List UInt8, (Lib.indexByte r 10 = -1 ∧ ∀ x ∈ r, isB 10 x = false) ∨ ∃ ln t, r = ln ++ 10 :: t ∧ (∀ x ∈ ln, isB 10 x = false) ∧ Lib.indexByte r 10 = (ln.length : Int)
  | [] => .inl ⟨rfl, by simp⟩
  | b :: r => by
    by_cases hb : b = 10
    · subst hb
      exact .inr ⟨[], r, rfl, by simp, by simp [Lib.indexByte]⟩
    · have hbq : (b == 10) = false := by simpa using hb
      rcases idx_nl r with ⟨h1, h2⟩ | ⟨ln, t, h1, h2, h3⟩
      · refine .inl ⟨by rw [Lib.indexByte, hbq, h1]; rfl, fun x hx => ?_⟩
        rcases List.mem_cons.1 hx with rfl | hx
        · exact hbq
        · exact h2 x hx
      · refine .inr ⟨b :: ln, t, by rw [h1]; rfl, fun x hx => ?_, ?_⟩
        · rcases List.mem_cons.1 hx with rfl | hx
          · exact hbq
          · exact h2 x hx
        · rw [Lib.indexByte, hbq, h3]
          have : ((ln.length : Int) == -1) = false := by simp
          rw [this]; simp
/-- whether the line at hand is that of the entry that was parsed -/
theorem line_yes {ln t : List UInt8} {q : Int} {en : Entry} {full : ByteArray} (hf : full.data.toList = ln ++ [10]) (hE : EntOf ln q en) : fmtEnt en q = (entT en q, entSum en q) ∧ ((fmtEnt en q).1.toList == full.toList) = true ∧ PfxOf (ln ++ 10 :: t) q en ∧ (entT en q).size = ln.length + 1 ∧ (fmtEnt en q).1.toList.isEmpty = false := by
  have h1 : fmtEnt en q = (entT en q, entSum en q) := by unfold fmtEnt; rw [hE.1, hE.2.1]; rfl
  have h2 : entT en q = full := bext (hE.2.2.trans hf.symm)
  refine ⟨h1, by rw [h1, h2]; simp, ln_pfx hE, ent_size hE, ?_⟩
  rw [h1, h2, ByteArray.toList_eq, hf]; simp
theorem line_no {ln t : List UInt8} {q : Int} {en : Entry} {full : ByteArray} {ok : Bool} (hl : ∀ x ∈ ln, isB 10 x = false) (hf : full.data.toList = ln ++ [10]) (hp : ∀ p g, EntOf ln p g → g = en ∧ ok = true) (hE : ¬ (EntOf ln q en ∧ ok = true)) : (∀ g, ¬ PfxOf (ln ++ 10 :: t) q g) ∧ (ok = true → ((fmtEnt en q).1.toList == full.toList) = false) := by
  constructor
  · intro g hg
    have h := pfx_at hl hg
    obtain ⟨rfl, ho⟩ := hp _ _ h
    exact hE ⟨h, ho⟩
  · intro ho
    rw [Bool.eq_false_iff]
    intro h
    have h2 := toL_inj (eq_of_beq h)
    unfold fmtEnt at h2
    by_cases hv : (vldEntry en && inR q 0 65520) = true
    · rw [if_pos hv] at h2
      rw [Bool.and_eq_true] at hv
      exact hE ⟨⟨hv.1, hv.2, by rw [show (entT en q, entSum en q).1 = entT en q from rfl] at h2; rw [h2]; exact hf⟩, ho⟩
    · rw [if_neg hv] at h2
      have := congrArg (fun x => x.data.toList) h2
      rw [hf] at this
      simp at this
theorem impl_readJournal_c (s : ByteArray) (w : World) (hs : s.size ≤ 1048576) (hT : TabJ w) : Calls Tryz.prog 50 #[.string s] w fun e w' => RjPost w s e w' := by
  obtain ⟨i0, hii, hq0, hq1, hq2⟩ := info_parts info_EntryJ
  have HT := Lib.hid hT
  have hsl : s.data.toList.length = s.size := by simp
  clear hT
  go_enter Tryz.func50, Tryz.ntmps50
  go_wp2_with fail
  go_loopw [5, 6, 7] (fun lv nv qv wr => ∃ (l : List Entry) (A : Option Addr) (c n : Nat) (q : Int), lv = .slice A l.length c ∧ nv = .int .i64 (n : Int) ∧ qv = .int .i64 q ∧ RjInv s.data.toList l n q ∧ inR q 0 65520 = true ∧ Own wr w.heap.size 46 10 A l.length c (l.map Entry.cells) ∧ Below w.heap.size w wr) (fun lv _ _ _ => 60 - lenV lv)
  case atStart => exact ⟨[], _, 0, 0, 1, rfl, rfl, rfl, RjInv.start _, by decide, Own.made0 w _ 10 (Nat.le_refl _), bAlloc (Below.refl _ _) _⟩
  case round =>
    obtain ⟨l, A, c, n, q, rfl, rfl, rfl, hi, hq, ho, hb⟩ := hrel
    have HI := Lib.hid hi
    have HO := Lib.hid ho
    have HB := Lib.hid hb
    have HQ := Lib.hid hq
    have hl60 := hi.1
    have hns : n ≤ s.size := by have := hi.2.1; omega
    have hn0 : (0 : Int) ≤ (n : Int) := by omega
    have hn1 : (n : Int) ≤ (s.size : Int) := by omega
    clear hi ho hb hq
    by_cases hlt : l.length < 60
    · have hltI : (l.length : Int) < 60 := by omega
      have hdr : (s.extract n s.size).data.toList = s.data.toList.drop n := by rw [ext_list]; exact List.take_of_length_le (by simp)
      rcases idx_nl (s.data.toList.drop n) with ⟨h1, h2⟩ | ⟨ln, t, h1, h2, h3⟩
      · have HS := Lib.hid (HI.out.stop (no_pfx (q := 0) h2))
        have HX := Lib.hid h1
        have HD := Lib.hid hdr
        clear h1 h2 hdr
        go_wp2_with (go_at_call 78; refine (YtebcdjpddoaajaaGreatDoor.strings_IndexByte _ 10 _).mono ?_; rw [HD.out, show (10 : Int).toNat.toUInt8 = 10 from rfl, HX.out]; rintro e w1_ ⟨rfl, hw1⟩; subst hw1)
        refine bodyPost_ret (v := .tuple #[.slice A l.length c, .int .i64 (n : Int), .int .i64 q]) (by simp [*, results, Tryz.results50, go_sem]) rfl ⟨⟨A, l.length, c⟩, by rw [HS.out], ?_, Fresh.obl_ HO.out, HB.out⟩
        rw [HS.out]; exact HO.out.zero
      · have hlen : s.size - n = ln.length + 1 + t.length := by
          have := congrArg List.length h1
          simp only [List.length_drop, List.length_append, List.length_cons, hsl] at this
          omega
        have hL1 : (s.extract n (n + ln.length)).data.toList = ln := by rw [ext_list, h1]; simp
        have hL2 : (s.extract n (n + ln.length + 1)).data.toList = ln ++ [10] := by
          rw [ext_list, h1, show n + ln.length + 1 - n = ln.length + 1 by omega]
          simp [List.take_append, List.take_of_length_le]
        have hz1 : (s.extract n (n + ln.length)).size ≤ s.size := by
          have := bsize (s.extract n (n + ln.length))
          rw [hL1] at this; omega
        have HX := Lib.hid h3
        have HD := Lib.hid hdr
        have H2 := Lib.hid h2
        have H1 := Lib.hid h1
        have HL1 := Lib.hid hL1
        have HL2 := Lib.hid hL2
        obtain ⟨E, hE⟩ : ∃ E, E = ln.length := ⟨_, rfl⟩
        rw [← hE] at hlen HX HL1 HL2 hz1
        have hne : (n : Int) + (E : Int) ≤ (s.size : Int) := by omega
        have hne1 : (n : Int) + (E : Int) + 1 ≤ (s.size : Int) := by omega
        have hE0 : (0 : Int) ≤ (E : Int) := by omega
        have hnE : (n : Int) ≤ (n : Int) + (E : Int) := by omega
        have hnE1 : (n : Int) ≤ (n : Int) + (E : Int) + 1 := by omega
        have hE1 : ¬ (E : Int) < 0 := by omega
        have HE := Lib.hid hE
        clear h1 h2 h3 hdr hL1 hL2 hE
        go_wp2_with (go_at_call 78; refine (YtebcdjpddoaajaaGreatDoor.strings_IndexByte _ 10 _).mono ?_; rw [HD.out, show (10 : Int).toNat.toUInt8 = 10 from rfl, HX.out]; rintro e w1_ ⟨rfl, hw1⟩; subst hw1)
        refine Calls.mono (impl_parseEntry_c (s.extract n (n + E)) _ (by omega) (HT.out.below HB.out)) ?_
        rintro e w2_ ⟨en, ok, rfl, hok, hres, hb2⟩
        rw [HL1.out] at hres
        obtain ⟨rm, eid, ⟨fi, fk, ff, ft, ⟨pt, px, py⟩, fw⟩⟩ := en
        rw [show vEntryE ⟨rm, eid, ⟨fi, fk, ff, ft, ⟨pt, px, py⟩, fw⟩⟩ = vEntry rm eid fi fk ff ft pt px py fw from rfl]
        obtain ⟨k1, k2, k3, k4⟩ := hok
        have HB2 := Lib.hid (bTrans HB.out hb2)
        have HO2 := Lib.hid (HO.out.below hb2)
        have HT2 := Lib.hid (HT.out.below HB2.out)
        have bxe := Bk.new w2_ [.bool rm, .int .i64 eid, .int .i64 fi, .int .i64 fk, .string ff, .string ft, .int .i64 pt, .int .i64 px, .int .i64 py, .int .i64 fw] 46 _ rfl
        have BXE := Lib.hid bxe
        clear hb2 bxe
        by_cases hEnt : EntOf ln q ⟨rm, eid, ⟨fi, fk, ff, ft, ⟨pt, px, py⟩, fw⟩⟩ ∧ ok = true
        · obtain ⟨hEn, rfl⟩ := hEnt
          obtain ⟨y1, y2, y3, y4, _⟩ := line_yes (t := t) HL2.out hEn
          rw [← H1.out] at y3
          have HNX := Lib.hid (HI.out.next hlt y3)
          rw [y4, ← HE.out] at HNX
          have HY1 := Lib.hid y1
          have hqn := entSum_in ⟨rm, eid, ⟨fi, fk, ff, ft, ⟨pt, px, py⟩, fw⟩⟩ q
          have HQN := Lib.hid hqn
          rw [y1] at y2
          simp only at y2
          obtain ⟨line, hline⟩ : ∃ x, x = entT ⟨rm, eid, ⟨fi, fk, ff, ft, ⟨pt, px, py⟩, fw⟩⟩ q := ⟨_, rfl⟩
          obtain ⟨sm, hsm⟩ : ∃ x, x = entSum ⟨rm, eid, ⟨fi, fk, ff, ft, ⟨pt, px, py⟩, fw⟩⟩ q := ⟨_, rfl⟩
          rw [← hsm] at HNX HQN
          rw [← hline] at y2
          rw [← hline, ← hsm] at HY1
          clear y1 y3 y4 hEn hres hqn hline hsm
          go_wp2_with (first
            | (go_at_call 15; refine (impl_FormatEntry_c rm eid fi fk ff ft pt px py fw q _ ⟨k3, k4⟩ k1 k2 ((HT2.out.1.tab).below (bAlloc (Below.refl _ _) _))).mono ?_; rw [HY1.out]; rintro e w3_ ⟨rfl, hb3⟩; have bx3 := BXE.out.below hb3; have r0 := bx3.bx.cells 0 _ rfl; have r1 := bx3.bx.cells 1 _ rfl; have r2 := bx3.bx.cells 2 _ rfl; have r3 := bx3.bx.cells 3 _ rfl; have r4 := bx3.bx.cells 4 _ rfl; have r5 := bx3.bx.cells 5 _ rfl; have r6 := bx3.bx.cells 6 _ rfl; have r7 := bx3.bx.cells 7 _ rfl; have r8 := bx3.bx.cells 8 _ rfl; have r9 := bx3.bx.cells 9 _ rfl)
            | (at_builtin; refine wpList_append rfl (.tmp 52) (.tmp 54) 53 rfl w.heap.size 46 10 96 i0 _ Tryz.underlying53 hii hq0 hq1 hq2 rfl (by omega) A l.length c (l.map Entry.cells) rfl ((((HO2.out.alloc_ _).below hb3)).alloc_ _) _ 1 1 [Entry.cells ⟨rm, eid, ⟨fi, fk, ff, ft, ⟨pt, px, py⟩, fw⟩⟩] rfl (Row.new1' _ _ _ 10 _ (by simp)) (by simp [Entry.cells, Factor.cells]) (by simp [Entry.cells, Factor.cells, Value.oneCell']) (by simp only [maxLen]; omega) (by omega) (by have := HB2.out.size; have := hb3.size; simp at *; omega) ?_; intro A5 c5 w5_ ho5 hg5 hat5))
          exact ⟨⟨l ++ [⟨rm, eid, ⟨fi, fk, ff, ft, ⟨pt, px, py⟩, fw⟩⟩], A5, c5, n + (E + 1), sm, by simp, by simp, rfl, HNX.out, HQN.out, by rw [List.length_append, List.map_append]; exact ho5, bGrown (bAlloc (bTrans (bAlloc HB2.out _) hb3) _) hg5 (fun q hq => (HO2.out.lt q hq).1)⟩, by simp [lenV]; omega⟩
        · obtain ⟨z1, z2⟩ := line_no (t := t) H2.out HL2.out hres hEnt
          rw [← H1.out] at z1
          have HS := Lib.hid (HI.out.stop z1)
          obtain ⟨fe, hfe⟩ : ∃ x, x = fmtEnt ⟨rm, eid, ⟨fi, fk, ff, ft, ⟨pt, px, py⟩, fw⟩⟩ q := ⟨_, rfl⟩
          have HY1 := Lib.hid hfe
          rw [← hfe] at z2
          clear z1 hres hEnt hfe
          obtain ⟨line, sm⟩ := fe
          cases ok
          all_goals
            (try have z3 := z2 rfl)
            clear z2
            go_wp2_with (go_at_call 15; refine (impl_FormatEntry_c rm eid fi fk ff ft pt px py fw q _ ⟨k3, k4⟩ k1 k2 ((HT2.out.1.tab).below (bAlloc (Below.refl _ _) _))).mono ?_; rw [← HY1.out]; rintro e w3_ ⟨rfl, hb3⟩)
            refine bodyPost_ret (v := .tuple #[.slice A l.length c, .int .i64 (n : Int), .int .i64 q]) (by simp [*, results, Tryz.results50, go_sem]) rfl ⟨⟨A, l.length, c⟩, by rw [HS.out], ?_, Fresh.obl_ ((HO2.out.alloc_ _).below hb3), bTrans (bAlloc HB2.out _) hb3⟩
            rw [HS.out]; exact ((HO2.out.alloc_ _).below hb3).zero
    · have hl : l.length = 60 := by omega
      have HS := Lib.hid (HI.out.full hl)
      have hlI : ¬ (l.length : Int) < 60 := by omega
      go_wp2_with fail
      refine bodyPost_ret (v := .tuple #[.slice A l.length c, .int .i64 (n : Int), .int .i64 q]) (by simp [*, results, Tryz.results50, go_sem]) rfl ⟨⟨A, l.length, c⟩, by rw [HS.out], ?_, Fresh.obl_ HO.out, HB.out⟩
      rw [HS.out]; exact HO.out.zero
end Go.Proofs.YtebcdjpddoaajaaGreatDoor
