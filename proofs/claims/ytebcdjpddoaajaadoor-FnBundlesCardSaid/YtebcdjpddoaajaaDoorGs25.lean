/- Texts of this proof, one behind the other: PsJrn, PsJoin, PsJrnS, PsApp. -/
import Derived.Test.YtebcdjpddoaajaaDoorGs8
import Derived.Test.YtebcdjpddoaajaaDoorGs10
import Derived.Test.YtebcdjpddoaajaaDoorGs21
import Derived.Test.YtebcdjpddoaajaaDoorGs24
/- A journal read: what the two answer; the program's. -/
namespace Go.Proofs.YtebcdjpddoaajaaDoor
open Go.RowKit
set_option linter.unusedVariables false
set_option linter.unusedSimpArgs false
set_option maxHeartbeats 4000000
set_option maxRecDepth 100000

theorem info_EntryJ : (Tryd.prog.info? 62).map (fun i => (i.zero, i.size, i.bytes)) = some (some (.agg #[.bool false, .int .i64 0, .int .i64 0, .int .i64 0, .string ByteArray.empty, .string ByteArray.empty, .int .i64 0, .int .i64 0, .int .i64 0, .int .i64 0]), 10, 96) := by kernel_rfl
def lenV : Value → Nat | .slice _ n _ => n | _ => 0
def RjPost (w : World) (s : ByteArray) (e : Ending) (w' : World) : Prop :=
  ∃ v : Sv, e = .returned (.tuple #[.slice v.A v.n v.c, .int .i64 ((rdj 60 s.data.toList 1).2.1 : Int), .int .i64 (rdj 60 s.data.toList 1).2.2]) ∧ OwN w' v (rdj 60 s.data.toList 1).1 ∧ Fresh w.heap.size w' (fpN v) ∧ Below w.heap.size w w'
theorem idx_nl : ∀ r : List UInt8, (Lib.indexByte r 10 = -1 ∧ ∀ x ∈ r, isB 10 x = false) ∨ ∃ ln t, r = ln ++ 10 :: t ∧ (∀ x ∈ ln, isB 10 x = false) ∧ Lib.indexByte r 10 = (ln.length : Int)
  | [] => .inl ⟨rfl, by simp⟩
  | b :: r => by
    by_cases hb : b = 10
    · subst hb
      exact .inr ⟨[], r, rfl, by simp, by simp [Lib.indexByte]⟩
    · have hbq : (b == 10) = false := by simpa using hb
      rcases idx_nl r with ⟨h1, h2⟩ | ⟨ln, t, h1, h2, h3⟩
      · refine .inl ⟨by rw [Lib.indexByte, hbq, h1]; rfl, fun x hx => ?_⟩
        rcases List.mem_cons.1 hx with rfl | hx
        · exact hbq
        · exact h2 x hx
      · refine .inr ⟨b :: ln, t, by rw [h1]; rfl, fun x hx => ?_, ?_⟩
        · rcases List.mem_cons.1 hx with rfl | hx
          · exact hbq
          · exact h2 x hx
        · rw [Lib.indexByte, hbq, h3]
          have : ((ln.length : Int) == -1) = false := by simp
          rw [this]; simp
/-- whether the line at hand is that of the entry that was parsed -/
theorem line_yes {ln t : List UInt8} {q : Int} {en : Entry} {full : ByteArray} (hf : full.data.toList = ln ++ [10]) (hE : EntOf ln q en) : fmtEnt en q = (entT en q, entSum en q) ∧ ((fmtEnt en q).1.toList == full.toList) = true ∧ PfxOf (ln ++ 10 :: t) q en ∧ (entT en q).size = ln.length + 1 ∧ (fmtEnt en q).1.toList.isEmpty = false := by
  have h1 : fmtEnt en q = (entT en q, entSum en q) := by unfold fmtEnt; rw [hE.1, hE.2.1]; rfl
  have h2 : entT en q = full := bext (hE.2.2.trans hf.symm)
  refine ⟨h1, by rw [h1, h2]; simp, ln_pfx hE, ent_size hE, ?_⟩
  rw [h1, h2, ByteArray.toList_eq, hf]; simp
theorem line_no {ln t : List UInt8} {q : Int} {en : Entry} {full : ByteArray} {ok : Bool} (hl : ∀ x ∈ ln, isB 10 x = false) (hf : full.data.toList = ln ++ [10]) (hp : ∀ p g, EntOf ln p g → g = en ∧ ok = true) (hE : ¬ (EntOf ln q en ∧ ok = true)) : (∀ g, ¬ PfxOf (ln ++ 10 :: t) q g) ∧ (ok = true → ((fmtEnt en q).1.toList == full.toList) = false) := by
  constructor
  · intro g hg
    have h := pfx_at hl hg
    obtain ⟨rfl, ho⟩ := hp _ _ h
    exact hE ⟨h, ho⟩
  · intro ho
    rw [Bool.eq_false_iff]
    intro h
    have h2 := toL_inj (eq_of_beq h)
    unfold fmtEnt at h2
    by_cases hv : (vldEntry en && inR q 0 65520) = true
    · rw [if_pos hv] at h2
      rw [Bool.and_eq_true] at hv
      exact hE ⟨⟨hv.1, hv.2, by rw [show (entT en q, entSum en q).1 = entT en q from rfl] at h2; rw [h2]; exact hf⟩, ho⟩
    · rw [if_neg hv] at h2
      have := congrArg (fun x => x.data.toList) h2
      rw [hf] at this
      simp at this
theorem impl_readJournal_c (s : ByteArray) (w : World) (hs : s.size ≤ 1048576) (hT : TabJ w) : Calls Tryd.prog 68 #[.string s] w fun e w' => RjPost w s e w' := by
  obtain ⟨i0, hii, hq0, hq1, hq2⟩ := info_parts info_EntryJ
  have HT := Lib.hid hT
  have hsl : s.data.toList.length = s.size := by simp
  clear hT
  go_enter Tryd.func68, Tryd.ntmps68
  go_wp2_with fail
  go_loopw [5, 6, 7] (fun lv nv qv wr => ∃ (l : List Entry) (A : Option Addr) (c n : Nat) (q : Int), lv = .slice A l.length c ∧ nv = .int .i64 (n : Int) ∧ qv = .int .i64 q ∧ RjInv s.data.toList l n q ∧ inR q 0 65520 = true ∧ Own wr w.heap.size 62 10 A l.length c (l.map Entry.cells) ∧ Below w.heap.size w wr) (fun lv _ _ _ => 60 - lenV lv)
  case atStart => exact ⟨[], _, 0, 0, 1, rfl, rfl, rfl, RjInv.start _, by decide, Own.made0 w _ 10 (Nat.le_refl _), bAlloc (Below.refl _ _) _⟩
  case round =>
    obtain ⟨l, A, c, n, q, rfl, rfl, rfl, hi, hq, ho, hb⟩ := hrel
    have HI := Lib.hid hi
    have HO := Lib.hid ho
    have HB := Lib.hid hb
    have HQ := Lib.hid hq
    have hl60 := hi.1
    have hns : n ≤ s.size := by have := hi.2.1; omega
    have hn0 : (0 : Int) ≤ (n : Int) := by omega
    have hn1 : (n : Int) ≤ (s.size : Int) := by omega
    clear hi ho hb hq
    by_cases hlt : l.length < 60
    · have hltI : (l.length : Int) < 60 := by omega
      have hdr : (s.extract n s.size).data.toList = s.data.toList.drop n := by rw [ext_list]; exact List.take_of_length_le (by simp)
      rcases idx_nl (s.data.toList.drop n) with ⟨h1, h2⟩ | ⟨ln, t, h1, h2, h3⟩
      · have HS := Lib.hid (HI.out.stop (no_pfx (q := 0) h2))
        have HX := Lib.hid h1
        have HD := Lib.hid hdr
        clear h1 h2 hdr
        go_wp2_with (go_at_call 99; refine (YtebcdjpddoaajaaDoor.strings_IndexByte _ 10 _).mono ?_; rw [HD.out, show (10 : Int).toNat.toUInt8 = 10 from rfl, HX.out]; rintro e w1_ ⟨rfl, hw1⟩; subst hw1)
        refine bodyPost_ret (v := .tuple #[.slice A l.length c, .int .i64 (n : Int), .int .i64 q]) (by simp [*, results, Tryd.results68, go_sem]) rfl ⟨⟨A, l.length, c⟩, by rw [HS.out], ?_, Fresh.obl_ HO.out, HB.out⟩
        rw [HS.out]; exact HO.out.zero
      · have hlen : s.size - n = ln.length + 1 + t.length := by
          have := congrArg List.length h1
          simp only [List.length_drop, List.length_append, List.length_cons, hsl] at this
          omega
        have hL1 : (s.extract n (n + ln.length)).data.toList = ln := by rw [ext_list, h1]; simp
        have hL2 : (s.extract n (n + ln.length + 1)).data.toList = ln ++ [10] := by
          rw [ext_list, h1, show n + ln.length + 1 - n = ln.length + 1 by omega]
          simp [List.take_append, List.take_of_length_le]
        have hz1 : (s.extract n (n + ln.length)).size ≤ s.size := by
          have := bsize (s.extract n (n + ln.length))
          rw [hL1] at this; omega
        have HX := Lib.hid h3
        have HD := Lib.hid hdr
        have H2 := Lib.hid h2
        have H1 := Lib.hid h1
        have HL1 := Lib.hid hL1
        have HL2 := Lib.hid hL2
        obtain ⟨E, hE⟩ : ∃ E, E = ln.length := ⟨_, rfl⟩
        rw [← hE] at hlen HX HL1 HL2 hz1
        have hne : (n : Int) + (E : Int) ≤ (s.size : Int) := by omega
        have hne1 : (n : Int) + (E : Int) + 1 ≤ (s.size : Int) := by omega
        have hE0 : (0 : Int) ≤ (E : Int) := by omega
        have hnE : (n : Int) ≤ (n : Int) + (E : Int) := by omega
        have hnE1 : (n : Int) ≤ (n : Int) + (E : Int) + 1 := by omega
        have hE1 : ¬ (E : Int) < 0 := by omega
        have HE := Lib.hid hE
        clear h1 h2 h3 hdr hL1 hL2 hE
        go_wp2_with (go_at_call 99; refine (YtebcdjpddoaajaaDoor.strings_IndexByte _ 10 _).mono ?_; rw [HD.out, show (10 : Int).toNat.toUInt8 = 10 from rfl, HX.out]; rintro e w1_ ⟨rfl, hw1⟩; subst hw1)
        refine Calls.mono (impl_parseEntry_c (s.extract n (n + E)) _ (by omega) (HT.out.below HB.out)) ?_
        rintro e w2_ ⟨en, ok, rfl, hok, hres, hb2⟩
        rw [HL1.out] at hres
        obtain ⟨rm, eid, ⟨fi, fk, ff, ft, ⟨pt, px, py⟩, fw⟩⟩ := en
        rw [show vEntryE ⟨rm, eid, ⟨fi, fk, ff, ft, ⟨pt, px, py⟩, fw⟩⟩ = vEntry rm eid fi fk ff ft pt px py fw from rfl]
        obtain ⟨k1, k2, k3, k4⟩ := hok
        have HB2 := Lib.hid (bTrans HB.out hb2)
        have HO2 := Lib.hid (HO.out.below hb2)
        have HT2 := Lib.hid (HT.out.below HB2.out)
        have bxe := Bk.new w2_ [.bool rm, .int .i64 eid, .int .i64 fi, .int .i64 fk, .string ff, .string ft, .int .i64 pt, .int .i64 px, .int .i64 py, .int .i64 fw] 62 _ rfl
        have BXE := Lib.hid bxe
        clear hb2 bxe
        by_cases hEnt : EntOf ln q ⟨rm, eid, ⟨fi, fk, ff, ft, ⟨pt, px, py⟩, fw⟩⟩ ∧ ok = true
        · obtain ⟨hEn, rfl⟩ := hEnt
          obtain ⟨y1, y2, y3, y4, _⟩ := line_yes (t := t) HL2.out hEn
          rw [← H1.out] at y3
          have HNX := Lib.hid (HI.out.next hlt y3)
          rw [y4, ← HE.out] at HNX
          have HY1 := Lib.hid y1
          have hqn := entSum_in ⟨rm, eid, ⟨fi, fk, ff, ft, ⟨pt, px, py⟩, fw⟩⟩ q
          have HQN := Lib.hid hqn
          rw [y1] at y2
          simp only at y2
          obtain ⟨line, hline⟩ : ∃ x, x = entT ⟨rm, eid, ⟨fi, fk, ff, ft, ⟨pt, px, py⟩, fw⟩⟩ q := ⟨_, rfl⟩
          obtain ⟨sm, hsm⟩ : ∃ x, x = entSum ⟨rm, eid, ⟨fi, fk, ff, ft, ⟨pt, px, py⟩, fw⟩⟩ q := ⟨_, rfl⟩
          rw [← hsm] at HNX HQN
          rw [← hline] at y2
          rw [← hline, ← hsm] at HY1
          clear y1 y3 y4 hEn hres hqn hline hsm
          go_wp2_with (first
            | (go_at_call 66; refine (impl_FormatEntry_c rm eid fi fk ff ft pt px py fw q _ ⟨k3, k4⟩ k1 k2 ((HT2.out.1.tab).below (bAlloc (Below.refl _ _) _))).mono ?_; rw [HY1.out]; rintro e w3_ ⟨rfl, hb3⟩; have bx3 := BXE.out.below hb3; have r0 := bx3.bx.cells 0 _ rfl; have r1 := bx3.bx.cells 1 _ rfl; have r2 := bx3.bx.cells 2 _ rfl; have r3 := bx3.bx.cells 3 _ rfl; have r4 := bx3.bx.cells 4 _ rfl; have r5 := bx3.bx.cells 5 _ rfl; have r6 := bx3.bx.cells 6 _ rfl; have r7 := bx3.bx.cells 7 _ rfl; have r8 := bx3.bx.cells 8 _ rfl; have r9 := bx3.bx.cells 9 _ rfl)
            | (at_builtin; refine wpList_append rfl (.tmp 52) (.tmp 54) 54 rfl w.heap.size 62 10 96 i0 _ Tryd.underlying54 hii hq0 hq1 hq2 rfl (by omega) A l.length c (l.map Entry.cells) rfl ((((HO2.out.alloc_ _).below hb3)).alloc_ _) _ 1 1 [Entry.cells ⟨rm, eid, ⟨fi, fk, ff, ft, ⟨pt, px, py⟩, fw⟩⟩] rfl (Row.new1' _ _ _ 10 _ (by simp)) (by simp [Entry.cells, Factor.cells]) (by simp [Entry.cells, Factor.cells, Value.oneCell']) (by simp only [maxLen]; omega) (by omega) (by have := HB2.out.size; have := hb3.size; simp at *; omega) ?_; intro A5 c5 w5_ ho5 hg5 hat5))
          exact ⟨⟨l ++ [⟨rm, eid, ⟨fi, fk, ff, ft, ⟨pt, px, py⟩, fw⟩⟩], A5, c5, n + (E + 1), sm, by simp, by simp, rfl, HNX.out, HQN.out, by rw [List.length_append, List.map_append]; exact ho5, bGrown (bAlloc (bTrans (bAlloc HB2.out _) hb3) _) hg5 (fun q hq => (HO2.out.lt q hq).1)⟩, by simp [lenV]; omega⟩
        · obtain ⟨z1, z2⟩ := line_no (t := t) H2.out HL2.out hres hEnt
          rw [← H1.out] at z1
          have HS := Lib.hid (HI.out.stop z1)
          obtain ⟨fe, hfe⟩ : ∃ x, x = fmtEnt ⟨rm, eid, ⟨fi, fk, ff, ft, ⟨pt, px, py⟩, fw⟩⟩ q := ⟨_, rfl⟩
          have HY1 := Lib.hid hfe
          rw [← hfe] at z2
          clear z1 hres hEnt hfe
          obtain ⟨line, sm⟩ := fe
          cases ok
          all_goals
            (try have z3 := z2 rfl)
            clear z2
            go_wp2_with (go_at_call 66; refine (impl_FormatEntry_c rm eid fi fk ff ft pt px py fw q _ ⟨k3, k4⟩ k1 k2 ((HT2.out.1.tab).below (bAlloc (Below.refl _ _) _))).mono ?_; rw [← HY1.out]; rintro e w3_ ⟨rfl, hb3⟩)
            refine bodyPost_ret (v := .tuple #[.slice A l.length c, .int .i64 (n : Int), .int .i64 q]) (by simp [*, results, Tryd.results68, go_sem]) rfl ⟨⟨A, l.length, c⟩, by rw [HS.out], ?_, Fresh.obl_ ((HO2.out.alloc_ _).below hb3), bTrans (bAlloc HB2.out _) hb3⟩
            rw [HS.out]; exact ((HO2.out.alloc_ _).below hb3).zero
    · have hl : l.length = 60 := by omega
      have HS := Lib.hid (HI.out.full hl)
      have hlI : ¬ (l.length : Int) < 60 := by omega
      go_wp2_with fail
      refine bodyPost_ret (v := .tuple #[.slice A l.length c, .int .i64 (n : Int), .int .i64 q]) (by simp [*, results, Tryd.results68, go_sem]) rfl ⟨⟨A, l.length, c⟩, by rw [HS.out], ?_, Fresh.obl_ HO.out, HB.out⟩
      rw [HS.out]; exact HO.out.zero
end Go.Proofs.YtebcdjpddoaajaaDoor

/- Join and l27Entry of the reference. -/
namespace Go.Proofs.YtebcdjpddoaajaaDoor
open Go.RowKit
set_option linter.unusedVariables false
set_option linter.unusedSimpArgs false
set_option maxHeartbeats 4000000
set_option maxRecDepth 100000

theorem joinL_snoc (c : UInt8) (x : List UInt8) : ∀ {L : List (List UInt8)}, L ≠ [] → joinL c (L ++ [x]) = joinL c L ++ c :: x
  | [], h => absurd rfl h
  | a :: L, _ => by rw [List.cons_append, joinL_flat, joinL_flat, List.flatMap_append]; simp
theorem joinL_len (c : UInt8) (M : List (List UInt8)) : ∀ L : List (List UInt8), (joinL c L).length ≤ (joinL c (L ++ M)).length
  | [] => Nat.zero_le _
  | a :: L => by rw [List.cons_append, joinL_flat, joinL_flat, List.flatMap_append]; simp
theorem joinL_mid (c : UInt8) (a z : List UInt8) (T : List (List UInt8)) : (joinL c T).length ≤ (joinL c (a :: (T ++ [z]))).length := by
  have h1 := joinL_len c [z] T
  rw [joinL_cons c a (by simp)]
  simp; omega
def dl (T : List ByteArray) : List (List UInt8) := T.map fun x => x.data.toList
theorem spec_Join_c (A : Option Addr) (n c : Nat) (T : List ByteArray) (b : UInt8) (w : World) (hr : RowS w A n T) (hn : n ≤ 4194304) (hz : (joinL b (dl T)).length ≤ 4194304) :
    Calls Tryd.prog 125 #[.slice A n c, .string ⟨#[b]⟩] w fun e w' => e = .returned (.string ⟨(joinL b (dl T)).toArray⟩) ∧ w = w' := by
  have HR := Lib.hid hr
  have hl : T.length = n := hr.len.out
  clear hr
  go_enter Tryd.func125, Tryd.ntmps125
  go_wp2_with fail
  go_loopw [5, 10] (fun sv iv wr => ∃ (k : Nat) (t : ByteArray), k ≤ n ∧ iv = .int .i64 (k : Int) ∧ sv = .string t ∧ t.data.toList = joinL b (dl (T.take k)) ∧ wr = w) (fun _ iv _ => n - (intOf iv).toNat)
  case atStart => exact ⟨0, ⟨#[]⟩, Nat.zero_le _, rfl, rfl, rfl, rfl⟩
  case round =>
    obtain ⟨k, t, hk, rfl, rfl, ht, rfl⟩ := hrel
    have htl := bsize t
    have hlen := joinL_len b (dl (T.drop k)) (dl (T.take k))
    rw [show dl (T.take k) ++ dl (T.drop k) = dl T by unfold dl; rw [← List.map_append, List.take_append_drop]] at hlen
    by_cases hlt : k < n
    · obtain ⟨x, g, off, hx, rfl, cx⟩ := RowS.at_ HR.out hlt
      have hxe : T[k]? = some x := hx.out
      obtain ⟨hi, he⟩ := List.getElem?_eq_some_iff.1 hxe
      have htk : dl (T.take (k + 1)) = dl (T.take k) ++ [x.data.toList] := by unfold dl; rw [List.take_succ_eq_append_getElem hi, List.map_append, he]; rfl
      have hlen2 := joinL_len b (dl (T.drop (k + 1))) (dl (T.take (k + 1)))
      rw [show dl (T.take (k + 1)) ++ dl (T.drop (k + 1)) = dl T by unfold dl; rw [← List.map_append, List.take_append_drop]] at hlen2
      have hxl := bsize x
      by_cases h0 : k = 0
      · subst h0
        have cx : wr.cell? ⟨g, off, none⟩ = some (.string x) := cx
        have hts : t = ⟨#[]⟩ := bext (by rw [ht]; rfl)
        have hd : dl (T.take (0 + 1)) = [x.data.toList] := by rw [htk]; rfl
        have hxs : x.size ≤ 4194304 := by rw [hd] at hlen2; simp only [joinL] at hlen2; omega
        obtain ⟨u, e0, z0, c0⟩ := cat t x 0 4194304 (by rw [hts]; exact Nat.le_refl _) hxs (by omega)
        have HU := Lib.hid (show u.data.toList = joinL b (dl (T.take (0 + 1))) by rw [← e0.out, hts, hd]; simp [joinL, ByteArray.data_append])
        clear ht htk hlen hlen2 hxe hi he hd hts hx htl
        go_wp2_with fail
        exact ⟨⟨1, u, by omega, by simp, rfl, HU.out, by first | trivial | rfl⟩, by simp only [intOf]; omega⟩
      · have hne : dl (T.take k) ≠ [] := by
          intro h
          have := congrArg List.length h
          unfold dl at this
          simp only [List.length_map, List.length_take, List.length_nil] at this
          omega
        have hj := joinL_snoc b x.data.toList hne
        rw [← htk] at hj
        have hsz : t.size + 1 + x.size ≤ 4194304 := by
          have := congrArg List.length hj
          simp only [List.length_append, List.length_cons, ← ht] at this
          omega
        obtain ⟨u0, e0, z0, c0⟩ := cat t ⟨#[b]⟩ 4194304 1 (by omega) (by show 1 ≤ 1; omega) (by omega)
        obtain ⟨u1, e1, z1, c1⟩ := cat u0 x 4194305 4194304 z0 (by omega) (by omega)
        have HU := Lib.hid (show u1.data.toList = joinL b (dl (T.take (k + 1))) by rw [hj, ← e1.out, ← e0.out, ← ht]; simp [ByteArray.data_append])
        have hk0 : (0 : Int) < (k : Int) := by omega
        have hi0 : (0 : Int) ≤ (k : Int) := by omega
        have hi1 : (k : Int) < (n : Int) := by omega
        clear ht htk hlen hlen2 hxe hi he hx htl hj hne hsz
        go_wp2_with fail
        exact ⟨⟨k + 1, u1, by omega, by simp, rfl, HU.out, by first | trivial | rfl⟩, by simp only [intOf]; omega⟩
    · obtain rfl : k = n := by omega
      have hte : T.take k = T := List.take_of_length_le (by omega)
      have HF := Lib.hid (show t = ⟨(joinL b (dl T)).toArray⟩ from bext (by rw [ht, hte]))
      have hkk : ¬ (k : Int) < (k : Int) := by omega
      clear ht hte hlen htl
      go_wp2_with fail
      refine bodyPost_ret (v := .string t) (by simp [*, results, Tryd.results125, go_sem]) rfl ⟨by rw [← HF.out], rfl⟩
theorem gF_sz (x : ByteArray) : (gF x).frm.size ≤ 1048576 ∧ (gF x).to.size ≤ 1048576 := by
  unfold gF
  cases h : psFac x with
  | none => exact ⟨by show (0 : Nat) ≤ 1048576; omega, by show (0 : Nat) ≤ 1048576; omega⟩
  | some f => exact vld_sz (psFac_text h).1
def EntRes1 (ln : List UInt8) (w : World) (e : Ending) (w' : World) : Prop :=
  ∃ (en : Entry), e = .returned (vEntryE en) ∧ entOk en ∧ (∀ p g, EntOf ln p g → g = en) ∧ Below w.heap.size w w'
theorem words_add {ln : List UInt8} {w0 z : ByteArray} {T : List ByteArray} (hL : (w0 :: (T ++ [z])).map (fun x => x.data.toList) = splitL (isB 32) [] ln) (h0 : w0.data.toList = [97, 100, 100]) {p : Int} {g : Entry} (h : EntOf ln p g) : ∃ f, g = ⟨false, 0, f⟩ ∧ psFac ⟨(joinL 32 (dl T)).toArray⟩ = some f := by
  rcases ent_words h hL with ⟨f, v0, U, y, hg, hv, he, _, hj⟩ | ⟨n, v0, v1, y, hg, he, hr, _⟩
  · simp only [List.cons.injEq] at he
    have ht := List.append_inj' he.2 (by simp)
    refine ⟨f, hg, psFac_some ⟨hv, ?_⟩⟩
    rw [ht.1]; unfold dl; rw [hj]
  · simp only [List.cons.injEq] at he
    rw [← he.1, h0] at hr; exact absurd hr (by decide)
theorem words_rem {ln : List UInt8} {L : List ByteArray} {w0 : ByteArray} (hL : L.map (fun x => x.data.toList) = splitL (isB 32) [] ln) (hw : L[0]? = some w0) (h0 : ¬ (w0.data.toList = [97, 100, 100] ∧ 1 < L.length)) {p : Int} {g : Entry} (h : EntOf ln p g) : ∃ n w1, g = ⟨true, n, zFac⟩ ∧ 1 < L.length ∧ L[1]? = some w1 ∧ psI w1 = some n := by
  rcases ent_words h hL with ⟨f, v0, U, y, hg, hv, rfl, h1, hj⟩ | ⟨n, v0, v1, y, hg, rfl, hr, hp⟩
  · simp only [List.getElem?_cons_zero, Option.some.injEq] at hw
    subst hw
    exact absurd ⟨h1, by simp⟩ h0
  · exact ⟨n, v1, hg, by simp, rfl, hp⟩
theorem spec_l27Entry_c (s : ByteArray) (w : World) (hs : s.size ≤ 1048576) : Calls Tryd.prog 106 #[.string s] w fun e w' => EntRes1 s.data.toList w e w' := by
  go_enter Tryd.func106, Tryd.ntmps106
  go_wp2_with fail
  refine Calls.mono (spec_SplitAny_k s 32 _ (by omega)) ?_
  rintro e w1_ ⟨v, L, rfl, ho, hL, hb1⟩
  have bx1 := (Bk.new w [.bool false, .int .i64 0, .int .i64 0, .int .i64 0, .string ⟨#[]⟩, .string ⟨#[]⟩, .int .i64 0, .int .i64 0, .int .i64 0, .int .i64 0] 62 _ rfl).below hb1
  have B1 : Below w.heap.size w w1_ := bTrans (bAlloc (Below.refl _ _) _) hb1
  have HL := Lib.hid hL
  have hlen : L.length = v.n := by have := ho.lens; simpa [Hid] using this
  have hrow : RowS w1_ v.A v.n L := ho.row
  have hws := word_size hL
  have hcnt := words_cnt hL
  have hnc := ho.nc
  simp only [maxLen] at hnc
  have hne : 0 < v.n := by
    rw [← hlen]
    rcases L with _ | ⟨a, l⟩
    · exact absurd hL.symm (splitL_ne _ _ _)
    · simp
  clear hb1 ho hL
  obtain ⟨A, n, c⟩ := v
  simp only at hlen hrow hnc hne
  obtain ⟨g, off, rfl⟩ := hrow.some_ hne
  obtain ⟨w0, h0⟩ := ex_at (L := L) (k := 0) (by omega)
  have c0 := RowS.get hrow h0
  simp only [Nat.add_zero] at c0
  have hgl : g < w1_.heap.size := cell_lt c0
  by_cases hadd : w0.data.toList = [97, 100, 100]
  · have ha : (w0.toList == [97, 100, 100]) = true := by rw [ByteArray.toList_eq, hadd]; rfl
    by_cases h1n : 1 < n
    · obtain ⟨T, z, rfl⟩ : ∃ T z, L = w0 :: (T ++ [z]) := by
        rcases L with _ | ⟨a, l⟩
        · simp at h0
        · simp only [List.getElem?_cons_zero, Option.some.injEq] at h0
          subst h0
          have hl : l ≠ [] := by intro h; rw [h] at hlen; simp at hlen; omega
          exact ⟨l.dropLast, l.getLast hl, by rw [List.dropLast_concat_getLast hl]⟩
      obtain ⟨m, rfl⟩ : ∃ m, n = m + 2 := ⟨n - 2, by omega⟩
      obtain ⟨d, rfl⟩ : ∃ d, c = d + 2 := ⟨c - 2, by omega⟩
      have hTl : T.length = m := by simp at hlen; omega
      have hrT : RowS w1_ (some ⟨g, off + 1, none⟩) m T := by
        have h1 := Row.drop_ (c := strCells) hrow (k := 1) (by omega)
        have h2 := Row.take_ h1 (k := m) (by omega)
        have e : ((w0 :: (T ++ [z])).drop 1).take m = T := by simp [← hTl]
        rw [e] at h2
        simpa using h2
      have hJ := joinL_mid 32 w0.data.toList z.data.toList (dl T)
      have hj := joinL_split 32 s.data.toList []
      rw [← HL.out, List.nil_append] at hj
      have hsl := bsize s
      rw [show (w0 :: (T ++ [z])).map (fun x => x.data.toList) = w0.data.toList :: (dl T ++ [z.data.toList]) by simp [dl]] at hj
      rw [hj, hsl] at hJ
      obtain ⟨J, hJe⟩ : ∃ J : ByteArray, J = ⟨(joinL 32 (dl T)).toArray⟩ := ⟨_, rfl⟩
      have hJs : J.size ≤ 1048576 := by rw [hJe, bsz]; omega
      have HW := Lib.hid (fun p g h => words_add HL.out hadd (p := p) (g := g) h)
      rw [← hJe] at HW
      have HJE := Lib.hid hJe
      have hJ4 : (joinL 32 (dl T)).length ≤ 4194304 := by omega
      have hms : m ≤ 4194304 := by simp only [hlen] at hcnt; omega
      have hm1 : (m : Int) + 1 ≤ (d : Int) + 2 := by omega
      have hm2 : (1 : Int) ≤ (m : Int) + 1 := by omega
      have hmx : (m : Int) ≤ 4194304 := by omega
      clear hJe hws hcnt hj hJ hsl hrow h0 hadd hlen
      go_wp2_with fail
      refine Calls.mono (spec_Join_c _ m _ T 32 _ hrT hms hJ4) ?_
      rw [← HJE.out]
      rintro e w2_ ⟨rfl, rfl⟩
      go_wp2_with fail
      refine Calls.mono (spec_ParseFactor_c J _ hJs) ?_
      rintro e w3_ ⟨rfl, hb3⟩
      have bx3 := bx1.below hb3
      have B3 := bTrans B1 hb3
      obtain ⟨o, HVF⟩ := vFac_gF J
      rw [HVF]
      have HN := Lib.hid (show ∀ p g, EntOf s.data.toList p g → g = ⟨false, 0, gF J⟩ from fun p g h => by obtain ⟨f, hg, hf⟩ := HW.out p g h; rw [hg]; unfold gF; rw [hf]; rfl)
      have HOK := Lib.hid (gF_sz J)
      obtain ⟨⟨fi, fk, ff, ft, ⟨pt, px, py⟩, fw⟩, hf⟩ : ∃ f, f = gF J := ⟨_, rfl⟩
      rw [← hf] at HN HOK ⊢
      have bx4 := bx3.alloc_ (.cells #[.int .i64 fi, .int .i64 fk, .string ff, .string ft, .int .i64 pt, .int .i64 px, .int .i64 py, .int .i64 fw] 28)
      have r0 := bx4.bx.cells 0 _ rfl; have r1 := bx4.bx.cells 1 _ rfl; have r2 := bx4.bx.cells 2 _ rfl; have r3 := bx4.bx.cells 3 _ rfl; have r4 := bx4.bx.cells 4 _ rfl; have r5 := bx4.bx.cells 5 _ rfl; have r6 := bx4.bx.cells 6 _ rfl; have r7 := bx4.bx.cells 7 _ rfl; have r8 := bx4.bx.cells 8 _ rfl; have r9 := bx4.bx.cells 9 _ rfl; have rf := bx4.bx.froz; have rz := bx4.lt
      clear HVF hf HW hb3 bx1 B1 c0 hrT
      go_wp2_with fail
      refine bodyPost_ret (v := vEntryE (⟨false, 0, ⟨fi, fk, ff, ft, ⟨pt, px, py⟩, fw⟩⟩)) (by simp [*, vEntryE, zFac, results, Tryd.results106, go_sem]) rfl ⟨⟨false, 0, ⟨fi, fk, ff, ft, ⟨pt, px, py⟩, fw⟩⟩, rfl, ?_, ?_, ?_⟩
      · exact ⟨HOK.out.1, HOK.out.2, by show (-9223372036854775808 : Int) ≤ 0; omega, by show (0 : Int) ≤ _; omega⟩
      · exact HN.out
      · exact b10 (bAlloc B3 _) (Nat.le_refl _) _ _ _ _ _ _ _ _ _ _
    · obtain rfl : n = 1 := by omega
      have HN := Lib.hid (show ∀ p g, ¬ EntOf s.data.toList p g from fun p g h => by obtain ⟨n, w1, _, hl, _⟩ := words_rem HL.out h0 (fun hc => by omega) h; omega)
      have r0 := bx1.bx.cells 0 _ rfl; have r1 := bx1.bx.cells 1 _ rfl; have r2 := bx1.bx.cells 2 _ rfl; have r3 := bx1.bx.cells 3 _ rfl; have r4 := bx1.bx.cells 4 _ rfl; have r5 := bx1.bx.cells 5 _ rfl; have r6 := bx1.bx.cells 6 _ rfl; have r7 := bx1.bx.cells 7 _ rfl; have r8 := bx1.bx.cells 8 _ rfl; have r9 := bx1.bx.cells 9 _ rfl; have rf := bx1.bx.froz; have rz := bx1.lt
      clear hws hcnt hrow h0 hadd hlen
      go_wp2_with fail
      refine bodyPost_ret (v := vEntryE (⟨true, 0, zFac⟩)) (by simp [*, vEntryE, zFac, results, Tryd.results106, go_sem]) rfl ⟨⟨true, 0, zFac⟩, rfl, ?_, ?_, ?_⟩
      · exact zFac_ok _ (by omega) (by omega)
      · intro p g h; exact absurd h (HN.out p g)
      · exact b10 B1 (Nat.le_refl _) _ _ _ _ _ _ _ _ _ _
  · have ha : (w0.toList == [97, 100, 100]) = false := by rw [ByteArray.toList_eq]; simpa using hadd
    have HW := Lib.hid (fun p g h => words_rem HL.out h0 (fun hc => hadd hc.1) (p := p) (g := g) h)
    by_cases h1n : 1 < n
    · obtain ⟨w1, h1⟩ := ex_at (L := L) (k := 1) (by omega)
      have c1 := RowS.get hrow h1
      have z1 := hws w1 (List.mem_of_getElem? h1)
      have h1i : (1 : Int) < (n : Int) := by omega
      have HN := Lib.hid (show ∀ p g, EntOf s.data.toList p g → g = ⟨true, (psI w1).getD 0, zFac⟩ from fun p g h => by obtain ⟨n, w1', hg, _, hw, hp⟩ := HW.out p g h; rw [h1] at hw; injection hw with hw; rw [hg, hw, hp]; rfl)
      have HV := Lib.hid (vPair_eq (psI w1))
      have hrg := psI_rng w1
      clear hws hcnt hrow h0 hadd HW h1 hlen
      go_wp2_with fail
      refine Calls.mono (spec_ParseInt_c w1 _ (by omega)) ?_
      rintro e w3_ ⟨rfl, hb3⟩
      have bx3 := bx1.below hb3
      have B3 := bTrans B1 hb3
      rw [HV.out]
      clear HV hb3 bx1 B1 c0 c1
      generalize (psI w1).getD 0 = nn at *
      have r0 := bx3.bx.cells 0 _ rfl; have r1 := bx3.bx.cells 1 _ rfl; have r2 := bx3.bx.cells 2 _ rfl; have r3 := bx3.bx.cells 3 _ rfl; have r4 := bx3.bx.cells 4 _ rfl; have r5 := bx3.bx.cells 5 _ rfl; have r6 := bx3.bx.cells 6 _ rfl; have r7 := bx3.bx.cells 7 _ rfl; have r8 := bx3.bx.cells 8 _ rfl; have r9 := bx3.bx.cells 9 _ rfl; have rf := bx3.bx.froz; have rz := bx3.lt
      go_wp2_with fail
      refine bodyPost_ret (v := vEntryE (⟨true, nn, zFac⟩)) (by simp [*, vEntryE, zFac, results, Tryd.results106, go_sem]) rfl ⟨⟨true, nn, zFac⟩, rfl, ?_, ?_, ?_⟩
      · exact zFac_ok _ (by omega) (by omega)
      · exact HN.out
      · exact b10 B3 (Nat.le_refl _) _ _ _ _ _ _ _ _ _ _
    · obtain rfl : n = 1 := by omega
      have HN := Lib.hid (show ∀ p g, ¬ EntOf s.data.toList p g from fun p g h => by obtain ⟨n, w1, _, hl, _⟩ := HW.out p g h; omega)
      have r0 := bx1.bx.cells 0 _ rfl; have r1 := bx1.bx.cells 1 _ rfl; have r2 := bx1.bx.cells 2 _ rfl; have r3 := bx1.bx.cells 3 _ rfl; have r4 := bx1.bx.cells 4 _ rfl; have r5 := bx1.bx.cells 5 _ rfl; have r6 := bx1.bx.cells 6 _ rfl; have r7 := bx1.bx.cells 7 _ rfl; have r8 := bx1.bx.cells 8 _ rfl; have r9 := bx1.bx.cells 9 _ rfl; have rf := bx1.bx.froz; have rz := bx1.lt
      clear hws hcnt hrow h0 hadd HW hlen
      go_wp2_with fail
      refine bodyPost_ret (v := vEntryE (⟨true, 0, zFac⟩)) (by simp [*, vEntryE, zFac, results, Tryd.results106, go_sem]) rfl ⟨⟨true, 0, zFac⟩, rfl, ?_, ?_, ?_⟩
      · exact zFac_ok _ (by omega) (by omega)
      · intro p g h; exact absurd h (HN.out p g)
      · exact b10 B1 (Nat.le_refl _) _ _ _ _ _ _ _ _ _ _
end Go.Proofs.YtebcdjpddoaajaaDoor

/- A journal read: the reference's; ReadJournal of both. -/
namespace Go.Proofs.YtebcdjpddoaajaaDoor
open Go.RowKit
set_option linter.unusedVariables false
set_option linter.unusedSimpArgs false
set_option maxHeartbeats 4000000
set_option maxRecDepth 100000

theorem spec_l27Read_c (s : ByteArray) (w : World) (hs : s.size ≤ 1048576) : Calls Tryd.prog 78 #[.string s] w fun e w' => RjPost w s e w' := by
  obtain ⟨i0, hii, hq0, hq1, hq2⟩ := info_parts info_EntryJ
  have hsl := bsize s
  have HSL := Lib.hid hsl
  clear hsl
  go_enter Tryd.func78, Tryd.ntmps78
  go_wp2_with fail
  go_loopw [5, 6, 7] (fun lv nv qv wr => ∃ (l : List Entry) (A : Option Addr) (c n : Nat) (q : Int), lv = .slice A l.length c ∧ nv = .int .i64 (n : Int) ∧ qv = .int .i64 q ∧ RjInv s.data.toList l n q ∧ inR q 0 65520 = true ∧ Own wr w.heap.size 62 10 A l.length c (l.map Entry.cells) ∧ Below w.heap.size w wr) (fun lv _ _ _ => 60 - lenV lv)
  case atStart => exact ⟨[], _, 0, 0, 1, rfl, rfl, rfl, RjInv.start _, by decide, Own.made0 w _ 10 (Nat.le_refl _), bAlloc (Below.refl _ _) _⟩
  case round =>
    obtain ⟨l, A, c, n, q, rfl, rfl, rfl, hi, hq, ho, hb⟩ := hrel
    have HI := Lib.hid hi
    have HO := Lib.hid ho
    have HB := Lib.hid hb
    have HQ := Lib.hid hq
    have hl60 := hi.1
    have hns : n ≤ s.size := by have := hi.2.1; have := HSL.out; omega
    have hn0 : (0 : Int) ≤ (n : Int) := by omega
    have hn1 : (n : Int) ≤ (s.size : Int) := by omega
    clear hi ho hb hq
    by_cases hlt : l.length < 60
    · have hltI : (l.length : Int) < 60 := by omega
      go_wp2_with fail
      go_loopw [8] (fun ev wr2 => ∃ (j : Nat), ev = .int .i64 (j : Int) ∧ n ≤ j ∧ j ≤ s.size ∧ (∀ x ∈ (s.data.toList.drop n).take (j - n), isB 10 x = false) ∧ wr2 = wr) (fun ev _ => s.size - (intOf ev).toNat)
      case atStart => exact ⟨n, rfl, Nat.le_refl _, hns, by simp, rfl⟩
      case round =>
        obtain ⟨j, rfl, hnj, hjs, hno, rfl⟩ := hrel
        have HNO := Lib.hid hno
        clear hno
        have hj0 : (0 : Int) ≤ (j : Int) := by omega
        by_cases hjl : j < s.size
        · have hj1 : (j : Int) < (s.size : Int) := by omega
          by_cases hc : s[j] = 10
          · have hcI : (s[j].toNat : Int) = 10 := by rw [hc]; rfl
            obtain ⟨ln, hln⟩ : ∃ ln, ln = (s.data.toList.drop n).take (j - n) := ⟨_, rfl⟩
            obtain ⟨t, ht⟩ : ∃ t, t = s.data.toList.drop (j + 1) := ⟨_, rfl⟩
            have h1 : s.data.toList.drop n = ln ++ 10 :: t := by
              have e1 := sdrop s hjl
              rw [hc, ← ht] at e1
              have e2 := (List.take_append_drop (j - n) (s.data.toList.drop n)).symm
              rw [List.drop_drop, show n + (j - n) = j by omega, e1, ← hln] at e2
              exact e2
            have hlnl : ln.length = j - n := by
              rw [hln, List.length_take, List.length_drop, HSL.out]; omega
            have hL1 : (s.extract n j).data.toList = ln := by rw [ext_list, hln]
            have hL2 : (s.extract n (j + 1)).data.toList = ln ++ [10] := by
              rw [ext_list, h1, show j + 1 - n = ln.length + 1 by omega]
              simp [List.take_append, List.take_of_length_le]
            have hz1 : (s.extract n j).size ≤ s.size := by
              have := bsize (s.extract n j)
              rw [hL1] at this; omega
            have H2 := Lib.hid (show ∀ x ∈ ln, isB 10 x = false by rw [hln]; exact HNO.out)
            have H1 := Lib.hid h1
            have HL1 := Lib.hid hL1
            have HL2 := Lib.hid hL2
            have HLN := Lib.hid hlnl
            have hne : ¬ (j : Int) = (s.size : Int) := by omega
            have hneb : ((j : Int) == (s.size : Int)) = false := by simp only [beq_eq_false_iff_ne]; omega
            have hnjI : (n : Int) ≤ (j : Int) := by omega
            have hnjI1 : (n : Int) ≤ (j : Int) + 1 := by omega
            have hj1s : (j : Int) + 1 ≤ (s.size : Int) := by omega
            clear hln ht h1 hlnl hL1 hL2 hc
            go_wp2_with fail
            refine Calls.mono (spec_l27Entry_c (s.extract n j) _ (by omega)) ?_
            rintro e w2_ ⟨en, rfl, hok, hres, hb2⟩
            rw [HL1.out] at hres
            obtain ⟨rm, eid, ⟨fi, fk, ff, ft, ⟨pt, px, py⟩, fw⟩⟩ := en
            rw [show vEntryE ⟨rm, eid, ⟨fi, fk, ff, ft, ⟨pt, px, py⟩, fw⟩⟩ = vEntry rm eid fi fk ff ft pt px py fw from rfl]
            obtain ⟨k1, k2, k3, k4⟩ := hok
            have HB2 := Lib.hid (bTrans HB.out hb2)
            have HO2 := Lib.hid (HO.out.below hb2)
            have BXE := Lib.hid (Bk.new w2_ [.bool rm, .int .i64 eid, .int .i64 fi, .int .i64 fk, .string ff, .string ft, .int .i64 pt, .int .i64 px, .int .i64 py, .int .i64 fw] 62 _ rfl)
            clear hb2
            by_cases hEnt : EntOf ln q ⟨rm, eid, ⟨fi, fk, ff, ft, ⟨pt, px, py⟩, fw⟩⟩
            · obtain ⟨y1, y2, y3, y4, y5⟩ := line_yes (t := t) HL2.out hEnt
              rw [← H1.out] at y3
              have hnx := HI.out.next hlt y3
              rw [y4, HLN.out, show n + (j - n + 1) = j + 1 by omega] at hnx
              have HNX := Lib.hid hnx
              have HY1 := Lib.hid y1
              have hqn := entSum_in ⟨rm, eid, ⟨fi, fk, ff, ft, ⟨pt, px, py⟩, fw⟩⟩ q
              have HQN := Lib.hid hqn
              rw [y1] at y2 y5
              simp only at y2 y5
              obtain ⟨line, hline⟩ : ∃ x, x = entT ⟨rm, eid, ⟨fi, fk, ff, ft, ⟨pt, px, py⟩, fw⟩⟩ q := ⟨_, rfl⟩
              obtain ⟨sm, hsm⟩ : ∃ x, x = entSum ⟨rm, eid, ⟨fi, fk, ff, ft, ⟨pt, px, py⟩, fw⟩⟩ q := ⟨_, rfl⟩
              rw [← hsm] at HNX HQN
              rw [← hline] at y2 y5
              rw [← hline, ← hsm] at HY1
              clear y1 y3 y4 hEnt hres hqn hline hsm hnx
              go_wp2_with (first
                | (go_at_call 79; refine (spec_FormatEntry_c rm eid fi fk ff ft pt px py fw q _ ⟨k3, k4⟩ k1 k2).mono ?_; rw [HY1.out]; rintro e w3_ ⟨rfl, hb3⟩; have bx3 := BXE.out.below hb3; have r0 := bx3.bx.cells 0 _ rfl; have r1 := bx3.bx.cells 1 _ rfl; have r2 := bx3.bx.cells 2 _ rfl; have r3 := bx3.bx.cells 3 _ rfl; have r4 := bx3.bx.cells 4 _ rfl; have r5 := bx3.bx.cells 5 _ rfl; have r6 := bx3.bx.cells 6 _ rfl; have r7 := bx3.bx.cells 7 _ rfl; have r8 := bx3.bx.cells 8 _ rfl; have r9 := bx3.bx.cells 9 _ rfl)
                | (at_builtin; refine wpList_append rfl (.tmp 61) (.tmp 63) 54 rfl w.heap.size 62 10 96 i0 _ Tryd.underlying54 hii hq0 hq1 hq2 rfl (by omega) A l.length c (l.map Entry.cells) rfl ((((HO2.out.alloc_ _).below hb3)).alloc_ _) _ 1 1 [Entry.cells ⟨rm, eid, ⟨fi, fk, ff, ft, ⟨pt, px, py⟩, fw⟩⟩] rfl (Row.new1' _ _ _ 10 _ (by simp)) (by simp [Entry.cells, Factor.cells]) (by simp [Entry.cells, Factor.cells, Value.oneCell']) (by simp only [maxLen]; omega) (by omega) (by have := HB2.out.size; have := hb3.size; simp at *; omega) ?_; intro A5 c5 w5_ ho5 hg5 hat5))
              exact ⟨⟨l ++ [⟨rm, eid, ⟨fi, fk, ff, ft, ⟨pt, px, py⟩, fw⟩⟩], A5, c5, j + 1, sm, by simp, by simp, rfl, HNX.out, HQN.out, by rw [List.length_append, List.map_append]; exact ho5, bGrown (bAlloc (bTrans (bAlloc HB2.out _) hb3) _) hg5 (fun q hq => (HO2.out.lt q hq).1)⟩, by simp [lenV]; omega⟩
            · obtain ⟨z1, z2⟩ := line_no (t := t) (ok := true) H2.out HL2.out (fun p g h => ⟨hres p g h, rfl⟩) (fun h => hEnt h.1)
              rw [← H1.out] at z1
              have HS := Lib.hid (HI.out.stop z1)
              have z3 := z2 rfl
              obtain ⟨fe, hfe⟩ : ∃ x, x = fmtEnt ⟨rm, eid, ⟨fi, fk, ff, ft, ⟨pt, px, py⟩, fw⟩⟩ q := ⟨_, rfl⟩
              have HY1 := Lib.hid hfe
              rw [← hfe] at z3
              clear z1 z2 hres hEnt hfe
              obtain ⟨line, sm⟩ := fe
              simp only at z3
              cases hemp : line.toList.isEmpty
              all_goals
                go_wp2_with (go_at_call 79; refine (spec_FormatEntry_c rm eid fi fk ff ft pt px py fw q _ ⟨k3, k4⟩ k1 k2).mono ?_; rw [← HY1.out]; rintro e w3_ ⟨rfl, hb3⟩)
                refine bodyPost_ret (v := .tuple #[.slice A l.length c, .int .i64 (n : Int), .int .i64 q]) (by simp [*, results, Tryd.results78, go_sem]) rfl ⟨⟨A, l.length, c⟩, by rw [HS.out], ?_, Fresh.obl_ ((HO2.out.alloc_ _).below hb3), bTrans (bAlloc HB2.out _) hb3⟩
                rw [HS.out]; exact ((HO2.out.alloc_ _).below hb3).zero
          · have hcI : ¬ (s[j].toNat : Int) = 10 := by
              intro h
              exact hc (UInt8.toNat_inj.1 (by rw [show (10 : UInt8).toNat = 10 from rfl]; omega))
            have hcB : ((s[j].toNat : Int) == 10) = false := by simpa using hcI
            have HNX := Lib.hid (show ∀ x ∈ (s.data.toList.drop n).take (j + 1 - n), isB 10 x = false by
              have hb : s.data.toList[j]? = some s[j] := by
                have hk' : j < s.data.toList.length := by rw [HSL.out]; exact hjl
                rw [List.getElem?_eq_getElem hk']; rfl
              rw [← take_more hnj hb]
              intro x hx
              rcases List.mem_append.1 hx with hx | hx
              · exact HNO.out x hx
              · rw [List.mem_singleton.1 hx]; unfold isB; simpa using hc)
            clear hc
            go_wp2_with fail
            exact ⟨⟨j + 1, by simp, by omega, by omega, HNX.out, by first | trivial | rfl⟩, by simp only [intOf]; omega⟩
        · obtain rfl : j = s.size := by omega
          have HS := Lib.hid (HI.out.stop (no_pfx (q := 0) (by
            have h := HNO.out
            rw [List.take_of_length_le (by rw [List.length_drop, HSL.out]; omega)] at h
            exact h)))
          have hss : ¬ (s.size : Int) < (s.size : Int) := by omega
          go_wp2_with fail
          refine bodyPost_ret (v := .tuple #[.slice A l.length c, .int .i64 (n : Int), .int .i64 q]) (by simp [*, results, Tryd.results78, go_sem]) rfl ⟨⟨A, l.length, c⟩, by rw [HS.out], ?_, Fresh.obl_ HO.out, HB.out⟩
          rw [HS.out]; exact HO.out.zero
    · have hl : l.length = 60 := by omega
      have HS := Lib.hid (HI.out.full hl)
      have hlI : ¬ (l.length : Int) < 60 := by omega
      go_wp2_with fail
      refine bodyPost_ret (v := .tuple #[.slice A l.length c, .int .i64 (n : Int), .int .i64 q]) (by simp [*, results, Tryd.results78, go_sem]) rfl ⟨⟨A, l.length, c⟩, by rw [HS.out], ?_, Fresh.obl_ HO.out, HB.out⟩
      rw [HS.out]; exact HO.out.zero
/-- the entries that a journal reads as, and the bytes they take -/
noncomputable def rdE (s : ByteArray) : List Entry := (rdj 60 s.data.toList 1).1
noncomputable def rdN (s : ByteArray) : Nat := (rdj 60 s.data.toList 1).2.1
noncomputable def rdQ (s : ByteArray) : Int := (rdj 60 s.data.toList 1).2.2
theorem impl_ReadJournal_k (s : ByteArray) (w : World) (hs : s.size ≤ 1048576) (hT : TabJ w) : Calls Tryd.prog 31 #[.string s] w fun e w' => ∃ v : Sv, e = .returned (.tuple #[.slice v.A v.n v.c, .int .i64 (rdN s : Int)]) ∧ OwN w' v (rdE s) ∧ Fresh w.heap.size w' (fpN v) ∧ Below w.heap.size w w' := by
  go_enter Tryd.func31, Tryd.ntmps31
  go_wp2_with fail
  refine Calls.mono (impl_readJournal_c s _ hs hT) ?_
  rintro e w1 ⟨v, rfl, ho, hf, hb⟩
  go_wp2_with fail
  refine bodyPost_ret (v := .tuple #[.slice v.A v.n v.c, .int .i64 (rdN s : Int)]) (by simp [*, rdN, results, Tryd.results31, go_sem]) rfl ⟨v, rfl, ho, hf, hb⟩
theorem spec_ReadJournal_k (s : ByteArray) (w : World) (hs : s.size ≤ 1048576) : Calls Tryd.prog 41 #[.string s] w fun e w' => ∃ v : Sv, e = .returned (.tuple #[.slice v.A v.n v.c, .int .i64 (rdN s : Int)]) ∧ OwN w' v (rdE s) ∧ Fresh w.heap.size w' (fpN v) ∧ Below w.heap.size w w' := by
  go_enter Tryd.func41, Tryd.ntmps41
  go_wp2_with fail
  refine Calls.mono (spec_l27Read_c s _ hs) ?_
  rintro e w1 ⟨v, rfl, ho, hf, hb⟩
  go_wp2_with fail
  refine bodyPost_ret (v := .tuple #[.slice v.A v.n v.c, .int .i64 (rdN s : Int)]) (by simp [*, rdN, results, Tryd.results41, go_sem]) rfl ⟨v, rfl, ho, hf, hb⟩
theorem rdj_few : ∀ (k : Nat) (r : List UInt8) (p : Int), (rdj k r p).1.length ≤ k
  | 0, _, _ => Nat.le_refl _
  | k + 1, r, p => by
    rw [rdj]
    split
    · simp
    · rename_i e _
      have := rdj_few k (r.drop (entT e p).size) (entSum e p)
      simp; omega
theorem few_rdE (s : ByteArray) : fewN (rdE s) := by
  have := rdj_few 60 s.data.toList 1
  show (rdj 60 s.data.toList 1).1.length ≤ 1048576
  omega
end Go.Proofs.YtebcdjpddoaajaaDoor

/- AppendEntry of both. -/
namespace Go.Proofs.YtebcdjpddoaajaaDoor
open Go.RowKit
set_option linter.unusedVariables false
set_option linter.unusedSimpArgs false
set_option maxHeartbeats 4000000
set_option maxRecDepth 100000
theorem rdj_len : ∀ (k : Nat) (r : List UInt8) (p : Int), (rdj k r p).2.1 ≤ r.length
  | 0, _, _ => Nat.zero_le _
  | k + 1, r, p => by
    rw [rdj]
    split
    · exact Nat.zero_le _
    · rename_i e he
      obtain ⟨_, _, t, ht⟩ := nxt_text he
      have := rdj_len k (r.drop (entT e p).size) (entSum e p)
      have h1 := congrArg List.length ht
      have h2 := bsize (entT e p)
      simp only [List.length_append] at h1
      simp only [List.length_drop] at this ⊢
      omega
theorem rdj_in : ∀ (k : Nat) (r : List UInt8) (p : Int), inR p 0 65520 = true → inR (rdj k r p).2.2 0 65520 = true
  | 0, _, _, h => h
  | k + 1, r, p, h => by
    rw [rdj]
    split
    · exact h
    · rename_i e he
      exact rdj_in k _ _ (entSum_in e p)
theorem rdN_le (s : ByteArray) : rdN s ≤ s.size := by have := rdj_len 60 s.data.toList 1; rw [bsize] at this; exact this
theorem rdQ_in (s : ByteArray) : inR (rdQ s) 0 65520 = true := rdj_in 60 _ 1 (by decide)
theorem rdE_len (s : ByteArray) : (rdE s).length ≤ 60 := rdj_few 60 _ 1
/-- the journal with one more line -/
noncomputable def apE (s : ByteArray) (e : Entry) : ByteArray × Bool := if vldEntry e = true ∧ (rdE s).length ≠ 60 then (s.extract 0 (rdN s) ++ entT e (rdQ s), true) else (s, false)
theorem ent_ne {e : Entry} {p : Int} : (entT e p).toList.isEmpty = false := by
  rw [ByteArray.toList_eq]; unfold entT; simp
theorem fmtEnt_ok {e : Entry} {p : Int} (h : vldEntry e = true) (hp : inR p 0 65520 = true) : fmtEnt e p = (entT e p, entSum e p) := by unfold fmtEnt; rw [h, hp]; rfl
theorem fmtEnt_no {e : Entry} {p : Int} (h : vldEntry e = false) : fmtEnt e p = (⟨#[]⟩, 0) := by unfold fmtEnt; rw [h]; rfl
theorem entT_sz {e : Entry} {p : Int} (h : vldEntry e = true) (hp : inR p 0 65520 = true) : (entT e p).size ≤ 400 := by
  have hf : ∀ f : Factor, vldFactor f = true → (facL f).length ≤ 116 := fun f hv => by
    have h1 := fmtFac_size f
    have h2 := bsize (fmtFac f)
    rw [fmtFac_data hv] at h2
    omega
  have h2 := bsize (entT e p)
  have h3 := entSum_bound e p
  have h4 := Lib.itoa_length_le (entSum e p) (by omega) (by omega)
  rw [← h2]
  unfold entT
  rcases ent_kinds h with ⟨f, _, hv, he⟩ | ⟨n, _, hn, he⟩
  · have := hf f hv
    rw [he]; simp [addL]; omega
  · have := Lib.itoa_length_le n (by omega) (by omega)
    rw [he]; simp [remL]; omega
theorem RjPost.out {w w' : World} {s : ByteArray} {e : Ending} (h : RjPost w s e w') : ∃ v : Sv, e = .returned (.tuple #[.slice v.A v.n v.c, .int .i64 (rdN s : Int), .int .i64 (rdQ s)]) ∧ (rdE s).length = v.n ∧ Below w.heap.size w w' := by
  obtain ⟨v, h1, h2, _, h3⟩ := h
  refine ⟨v, h1, ?_, h3⟩
  have := h2.rd.1
  simpa [rdE] using this
theorem ap_no {s : ByteArray} {e : Entry} (h : ¬ (vldEntry e = true ∧ (rdE s).length ≠ 60)) : apE s e = (s, false) := by unfold apE; rw [if_neg h]
theorem ap_yes {s : ByteArray} {e : Entry} (h : vldEntry e = true) (h2 : (rdE s).length ≠ 60) : apE s e = (s.extract 0 (rdN s) ++ entT e (rdQ s), true) := by unfold apE; rw [if_pos ⟨h, h2⟩]
theorem ext_sz (s : ByteArray) (a b : Nat) : (s.extract a b).size ≤ s.size := by rw [ByteArray.size_extract]; omega
theorem impl_AppendEntry_c (s : ByteArray) (rm : Bool) (eid id kind : Int) (fr to : ByteArray) (t x y wt : Int) (w : World) (hs : s.size ≤ 1048576) (hwe : -9223372036854775808 ≤ eid ∧ eid ≤ 9223372036854775807) (hf : fr.size ≤ 1048576) (ht : to.size ≤ 1048576) (hT : TabJ w) :
    Calls Tryd.prog 36 #[.string s, vEntry rm eid id kind fr to t x y wt] w fun e w' => e = .returned (.tuple #[.string (apE s ⟨rm, eid, ⟨id, kind, fr, to, ⟨t, x, y⟩, wt⟩⟩).1, .bool (apE s ⟨rm, eid, ⟨id, kind, fr, to, ⟨t, x, y⟩, wt⟩⟩).2]) ∧ Below w.heap.size w w' := by
  have HT := Lib.hid hT
  clear hT
  have bx0 := Bk.new w [.bool rm, .int .i64 eid, .int .i64 id, .int .i64 kind, .string fr, .string to, .int .i64 t, .int .i64 x, .int .i64 y, .int .i64 wt] 62 _ rfl
  have B0 : Below w.heap.size w (w.alloc (.cells #[.bool rm, .int .i64 eid, .int .i64 id, .int .i64 kind, .string fr, .string to, .int .i64 t, .int .i64 x, .int .i64 y, .int .i64 wt] 62)) := bAlloc (Below.refl _ _) _
  go_enter Tryd.func36, Tryd.ntmps36
  go_wp2_with fail
  refine Calls.mono (impl_readJournal_c s _ hs (HT.out.below B0)) ?_
  rintro e w1 hpost
  obtain ⟨v, rfl, hl, hb1⟩ := hpost.out
  have bx1 := bx0.below hb1
  have B1 := bTrans B0 hb1
  have hqi := rdQ_in s
  have hn := rdN_le s
  have hle := rdE_len s
  have HNO := Lib.hid (fun h => ap_no (s := s) (e := ⟨rm, eid, ⟨id, kind, fr, to, ⟨t, x, y⟩, wt⟩⟩) h)
  have HYES := Lib.hid (fun h h2 => ap_yes (s := s) (e := ⟨rm, eid, ⟨id, kind, fr, to, ⟨t, x, y⟩, wt⟩⟩) h h2)
  obtain ⟨n, hne⟩ : ∃ n, n = rdN s := ⟨_, rfl⟩
  obtain ⟨q, hqe⟩ : ∃ q, q = rdQ s := ⟨_, rfl⟩
  rw [← hne] at HYES hn ⊢
  rw [← hqe] at HYES hqi ⊢
  have HT1 := Lib.hid (HT.out.below B1)
  have HQ := Lib.hid hqi
  obtain ⟨A, m, c⟩ := v
  simp only at hl
  rw [hl] at HNO HYES hle
  have r0 := bx1.bx.cells 0 _ rfl; have r1 := bx1.bx.cells 1 _ rfl; have r2 := bx1.bx.cells 2 _ rfl; have r3 := bx1.bx.cells 3 _ rfl; have r4 := bx1.bx.cells 4 _ rfl; have r5 := bx1.bx.cells 5 _ rfl; have r6 := bx1.bx.cells 6 _ rfl; have r7 := bx1.bx.cells 7 _ rfl; have r8 := bx1.bx.cells 8 _ rfl; have r9 := bx1.bx.cells 9 _ rfl
  clear hpost bx0 B0 hb1 hne hqe hqi hl HT
  cases hv : vldEntry ⟨rm, eid, ⟨id, kind, fr, to, ⟨t, x, y⟩, wt⟩⟩ with
  | false =>
    have HE := Lib.hid (HNO.out (fun h => by rw [hv] at h; cases h.1))
    have HV := Lib.hid hv
    clear hv HNO HYES
    go_wp2_with (go_at_call 76; refine (impl_IsValidEntry_c rm eid id kind fr to t x y wt _ hf ht).mono ?_; rw [HV.out]; rintro e w2 ⟨rfl, hb2⟩; have bx2 := bx1.below hb2; have B2 := bTrans B1 hb2; have s0 := bx2.bx.cells 0 _ rfl; have s1 := bx2.bx.cells 1 _ rfl; have s2 := bx2.bx.cells 2 _ rfl; have s3 := bx2.bx.cells 3 _ rfl; have s4 := bx2.bx.cells 4 _ rfl; have s5 := bx2.bx.cells 5 _ rfl; have s6 := bx2.bx.cells 6 _ rfl; have s7 := bx2.bx.cells 7 _ rfl; have s8 := bx2.bx.cells 8 _ rfl; have s9 := bx2.bx.cells 9 _ rfl)
    refine bodyPost_ret (v := .tuple #[.string s, .bool false]) (by simp [*, results, Tryd.results36, go_sem]) rfl ⟨by rw [HE.out], B2⟩
  | true =>
    have hfe := fmtEnt_ok hv HQ.out
    have hsz := entT_sz hv HQ.out
    have hne := ent_ne (e := ⟨rm, eid, ⟨id, kind, fr, to, ⟨t, x, y⟩, wt⟩⟩) (p := q)
    have HF := Lib.hid hfe
    clear hfe
    by_cases h60 : m = 60
    · have HE := Lib.hid (HNO.out (fun h => h.2 h60))
      have h6 : ((m : Int) == 60) = true := by rw [h60]; rfl
      have h6i : (m : Int) = 60 := by omega
      have HV := Lib.hid hv
      clear hv HNO HYES h60 hsz
      clear hne
      go_wp2_with (go_at_call 76; refine (impl_IsValidEntry_c rm eid id kind fr to t x y wt _ hf ht).mono ?_; rw [HV.out]; rintro e w2 ⟨rfl, hb2⟩; have bx2 := bx1.below hb2; have B2 := bTrans B1 hb2; have s0 := bx2.bx.cells 0 _ rfl; have s1 := bx2.bx.cells 1 _ rfl; have s2 := bx2.bx.cells 2 _ rfl; have s3 := bx2.bx.cells 3 _ rfl; have s4 := bx2.bx.cells 4 _ rfl; have s5 := bx2.bx.cells 5 _ rfl; have s6 := bx2.bx.cells 6 _ rfl; have s7 := bx2.bx.cells 7 _ rfl; have s8 := bx2.bx.cells 8 _ rfl; have s9 := bx2.bx.cells 9 _ rfl)
      refine bodyPost_ret (v := .tuple #[.string s, .bool false]) (by simp [*, results, Tryd.results36, go_sem]) rfl ⟨by rw [HE.out], B2⟩
    · have HE := Lib.hid (HYES.out hv h60)
      have h6 : ((m : Int) == 60) = false := by simp only [beq_eq_false_iff_ne]; omega
      have h6i : ¬ (m : Int) = 60 := by omega
      have HV := Lib.hid hv
      clear hv HNO HYES h60
      obtain ⟨line, hline⟩ : ∃ l, l = entT ⟨rm, eid, ⟨id, kind, fr, to, ⟨t, x, y⟩, wt⟩⟩ q := ⟨_, rfl⟩
      rw [← hline] at hne hsz HF HE
      clear hline
      obtain ⟨u, e0, z0, c0⟩ := cat (s.extract 0 n) line 1048576 400 (Nat.le_trans (ext_sz s 0 n) hs) hsz (by omega)
      have hn0 : (0 : Int) ≤ (n : Int) := by omega
      have hn1 : (n : Int) ≤ (s.size : Int) := by omega
      clear hne
      go_wp2_with (first | (go_at_call 76; refine (impl_IsValidEntry_c rm eid id kind fr to t x y wt _ hf ht).mono ?_; rw [HV.out]; rintro e w2 ⟨rfl, hb2⟩; have bx2 := bx1.below hb2; have B2 := bTrans B1 hb2; have s0 := bx2.bx.cells 0 _ rfl; have s1 := bx2.bx.cells 1 _ rfl; have s2 := bx2.bx.cells 2 _ rfl; have s3 := bx2.bx.cells 3 _ rfl; have s4 := bx2.bx.cells 4 _ rfl; have s5 := bx2.bx.cells 5 _ rfl; have s6 := bx2.bx.cells 6 _ rfl; have s7 := bx2.bx.cells 7 _ rfl; have s8 := bx2.bx.cells 8 _ rfl; have s9 := bx2.bx.cells 9 _ rfl) | (go_at_call 66; refine (impl_FormatEntry_c rm eid id kind fr to t x y wt q _ hwe hf ht (HT1.out.below hb2).1.tab).mono ?_; rw [HF.out]; rintro e w3 ⟨rfl, hb3⟩; have B3 := bTrans B2 hb3))
      refine bodyPost_ret (v := .tuple #[.string u, .bool true]) (by simp [*, results, Tryd.results36, go_sem]) rfl ⟨by rw [HE.out, e0.out], B3⟩
theorem spec_AppendEntry_c (s : ByteArray) (rm : Bool) (eid id kind : Int) (fr to : ByteArray) (t x y wt : Int) (w : World) (hs : s.size ≤ 1048576) (hwe : -9223372036854775808 ≤ eid ∧ eid ≤ 9223372036854775807) (hf : fr.size ≤ 1048576) (ht : to.size ≤ 1048576) :
    Calls Tryd.prog 39 #[.string s, vEntry rm eid id kind fr to t x y wt] w fun e w' => e = .returned (.tuple #[.string (apE s ⟨rm, eid, ⟨id, kind, fr, to, ⟨t, x, y⟩, wt⟩⟩).1, .bool (apE s ⟨rm, eid, ⟨id, kind, fr, to, ⟨t, x, y⟩, wt⟩⟩).2]) ∧ Below w.heap.size w w' := by
  have bx0 := Bk.new w [.bool rm, .int .i64 eid, .int .i64 id, .int .i64 kind, .string fr, .string to, .int .i64 t, .int .i64 x, .int .i64 y, .int .i64 wt] 62 _ rfl
  have B0 : Below w.heap.size w (w.alloc (.cells #[.bool rm, .int .i64 eid, .int .i64 id, .int .i64 kind, .string fr, .string to, .int .i64 t, .int .i64 x, .int .i64 y, .int .i64 wt] 62)) := bAlloc (Below.refl _ _) _
  go_enter Tryd.func39, Tryd.ntmps39
  go_wp2_with fail
  refine Calls.mono (spec_l27Read_c s _ hs) ?_
  rintro e w1 hpost
  obtain ⟨v, rfl, hl, hb1⟩ := hpost.out
  have bx1 := bx0.below hb1
  have B1 := bTrans B0 hb1
  have hqi := rdQ_in s
  have hn := rdN_le s
  have hle := rdE_len s
  have HNO := Lib.hid (fun h => ap_no (s := s) (e := ⟨rm, eid, ⟨id, kind, fr, to, ⟨t, x, y⟩, wt⟩⟩) h)
  have HYES := Lib.hid (fun h h2 => ap_yes (s := s) (e := ⟨rm, eid, ⟨id, kind, fr, to, ⟨t, x, y⟩, wt⟩⟩) h h2)
  obtain ⟨n, hne⟩ : ∃ n, n = rdN s := ⟨_, rfl⟩
  obtain ⟨q, hqe⟩ : ∃ q, q = rdQ s := ⟨_, rfl⟩
  rw [← hne] at HYES hn ⊢
  rw [← hqe] at HYES hqi ⊢
  have HQ := Lib.hid hqi
  obtain ⟨A, m, c⟩ := v
  simp only at hl
  rw [hl] at HNO HYES hle
  have r0 := bx1.bx.cells 0 _ rfl; have r1 := bx1.bx.cells 1 _ rfl; have r2 := bx1.bx.cells 2 _ rfl; have r3 := bx1.bx.cells 3 _ rfl; have r4 := bx1.bx.cells 4 _ rfl; have r5 := bx1.bx.cells 5 _ rfl; have r6 := bx1.bx.cells 6 _ rfl; have r7 := bx1.bx.cells 7 _ rfl; have r8 := bx1.bx.cells 8 _ rfl; have r9 := bx1.bx.cells 9 _ rfl
  clear hpost bx0 B0 hb1 hne hqe hqi hl
  cases hv : vldEntry ⟨rm, eid, ⟨id, kind, fr, to, ⟨t, x, y⟩, wt⟩⟩ with
  | false =>
    have HE := Lib.hid (HNO.out (fun h => by rw [hv] at h; cases h.1))
    have HV := Lib.hid (fmtEnt_no (p := q) hv)
    clear hv HNO HYES
    go_wp2_with (go_at_call 79; refine (spec_FormatEntry_c rm eid id kind fr to t x y wt q _ hwe hf ht).mono ?_; rw [HV.out]; rintro e w2 ⟨rfl, hb2⟩; have B2 := bTrans B1 hb2)
    refine bodyPost_ret (v := .tuple #[.string s, .bool false]) (by simp [*, results, Tryd.results39, go_sem]) rfl ⟨by rw [HE.out], B2⟩
  | true =>
    have hfe := fmtEnt_ok hv HQ.out
    have hsz := entT_sz hv HQ.out
    have hne := ent_ne (e := ⟨rm, eid, ⟨id, kind, fr, to, ⟨t, x, y⟩, wt⟩⟩) (p := q)
    have HF := Lib.hid hfe
    clear hfe
    by_cases h60 : m = 60
    · have HE := Lib.hid (HNO.out (fun h => h.2 h60))
      have h6 : ((m : Int) == 60) = true := by rw [h60]; rfl
      have h6i : (m : Int) = 60 := by omega
      have HV := Lib.hid hv
      clear hv HNO HYES h60 hsz
      obtain ⟨line, hline⟩ : ∃ l, l = entT ⟨rm, eid, ⟨id, kind, fr, to, ⟨t, x, y⟩, wt⟩⟩ q := ⟨_, rfl⟩
      rw [← hline] at hne HF
      clear hline
      go_wp2_with (go_at_call 79; refine (spec_FormatEntry_c rm eid id kind fr to t x y wt q _ hwe hf ht).mono ?_; rw [HF.out]; rintro e w2 ⟨rfl, hb2⟩; have B2 := bTrans B1 hb2)
      refine bodyPost_ret (v := .tuple #[.string s, .bool false]) (by simp [*, results, Tryd.results39, go_sem]) rfl ⟨by rw [HE.out], B2⟩
    · have HE := Lib.hid (HYES.out hv h60)
      have h6 : ((m : Int) == 60) = false := by simp only [beq_eq_false_iff_ne]; omega
      have h6i : ¬ (m : Int) = 60 := by omega
      have HV := Lib.hid hv
      clear hv HNO HYES h60
      obtain ⟨line, hline⟩ : ∃ l, l = entT ⟨rm, eid, ⟨id, kind, fr, to, ⟨t, x, y⟩, wt⟩⟩ q := ⟨_, rfl⟩
      rw [← hline] at hne hsz HF HE
      clear hline
      obtain ⟨u, e0, z0, c0⟩ := cat (s.extract 0 n) line 1048576 400 (Nat.le_trans (ext_sz s 0 n) hs) hsz (by omega)
      have hn0 : (0 : Int) ≤ (n : Int) := by omega
      have hn1 : (n : Int) ≤ (s.size : Int) := by omega
      go_wp2_with (go_at_call 79; refine (spec_FormatEntry_c rm eid id kind fr to t x y wt q _ hwe hf ht).mono ?_; rw [HF.out]; rintro e w2 ⟨rfl, hb2⟩; have B2 := bTrans B1 hb2)
      refine bodyPost_ret (v := .tuple #[.string u, .bool true]) (by simp [*, results, Tryd.results39, go_sem]) rfl ⟨by rw [HE.out, e0.out], B2⟩
end Go.Proofs.YtebcdjpddoaajaaDoor
