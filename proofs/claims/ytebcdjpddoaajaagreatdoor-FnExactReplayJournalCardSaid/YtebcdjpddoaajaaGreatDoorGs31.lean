/- Texts of this proof, one behind the other: PsJoin. -/
import Derived.Test.YtebcdjpddoaajaaGreatDoorGs29
/- Join and l27Entry of the reference. -/
namespace Go.Proofs.YtebcdjpddoaajaaGreatDoor
open Go.RowKit
set_option linter.unusedVariables false
set_option linter.unusedSimpArgs false
set_option maxHeartbeats 4000000
set_option maxRecDepth 100000

theorem joinL_snoc (c : UInt8) (x : List UInt8) : ∀ {L : List (List UInt8)}, L ≠ [] → joinL c (L ++ [x]) = joinL c L ++ c :: x
  | [], h => absurd rfl h
  | a :: L, _ => by rw [List.cons_append, joinL_flat, joinL_flat, List.flatMap_append]; simp
theorem joinL_len (c : UInt8) (M : List (List UInt8)) : ∀ L : List (List UInt8), (joinL c L).length ≤ (joinL c (L ++ M)).length
  | [] => Nat.zero_le _
  | a :: L => by rw [List.cons_append, joinL_flat, joinL_flat, List.flatMap_append]; simp
theorem joinL_mid (c : UInt8) (a z : List UInt8) (T : List (List UInt8)) : (joinL c T).length ≤ (joinL c (a :: (T ++ [z]))).length := by
  have h1 := joinL_len c [z] T
  rw [joinL_cons c a (by simp)]
  simp; omega
def dl (T : List ByteArray) : List (List UInt8) := T.map fun x => x.data.toList
theorem spec_Join_c (A : Option Addr) (n c : Nat) (T : List ByteArray) (b : UInt8) (w : World) (hr : RowS w A n T) (hn : n ≤ 4194304) (hz : (joinL b (dl T)).length ≤ 4194304) :
    Calls Tryz.prog 99 #[.slice A n c, .string ⟨#[b]⟩] w fun e w' => e = .returned (.string ⟨(joinL b (dl T)).toArray⟩) ∧ w = w' := by
  have HR := Lib.hid hr
  have hl : T.length = n := hr.len.out
  clear hr
  go_enter Tryz.func99, Tryz.ntmps99
  go_wp2_with fail
  go_loopw [5, 10] (fun sv iv wr => ∃ (k : Nat) (t : ByteArray), k ≤ n ∧ iv = .int .i64 (k : Int) ∧ sv = .string t ∧ t.data.toList = joinL b (dl (T.take k)) ∧ wr = w) (fun _ iv _ => n - (intOf iv).toNat)
  case atStart => exact ⟨0, ⟨#[]⟩, Nat.zero_le _, rfl, rfl, rfl, rfl⟩
  case round =>
    obtain ⟨k, t, hk, rfl, rfl, ht, rfl⟩ := hrel
    have htl := bsize t
    have hlen := joinL_len b (dl (T.drop k)) (dl (T.take k))
    rw [show dl (T.take k) ++ dl (T.drop k) = dl T by unfold dl; rw [← List.map_append, List.take_append_drop]] at hlen
    by_cases hlt : k < n
    · obtain ⟨x, g, off, hx, rfl, cx⟩ := RowS.at_ HR.out hlt
      have hxe : T[k]? = some x := hx.out
      obtain ⟨hi, he⟩ := List.getElem?_eq_some_iff.1 hxe
      have htk : dl (T.take (k + 1)) = dl (T.take k) ++ [x.data.toList] := by unfold dl; rw [List.take_succ_eq_append_getElem hi, List.map_append, he]; rfl
      have hlen2 := joinL_len b (dl (T.drop (k + 1))) (dl (T.take (k + 1)))
      rw [show dl (T.take (k + 1)) ++ dl (T.drop (k + 1)) = dl T by unfold dl; rw [← List.map_append, List.take_append_drop]] at hlen2
      have hxl := bsize x
      by_cases h0 : k = 0
      · subst h0
        have cx : wr.cell? ⟨g, off, none⟩ = some (.string x) := cx
        have hts : t = ⟨#[]⟩ := bext (by rw [ht]; rfl)
        have hd : dl (T.take (0 + 1)) = [x.data.toList] := by rw [htk]; rfl
        have hxs : x.size ≤ 4194304 := by rw [hd] at hlen2; simp only [joinL] at hlen2; omega
        obtain ⟨u, e0, z0, c0⟩ := cat t x 0 4194304 (by rw [hts]; exact Nat.le_refl _) hxs (by omega)
        have HU := Lib.hid (show u.data.toList = joinL b (dl (T.take (0 + 1))) by rw [← e0.out, hts, hd]; simp [joinL, ByteArray.data_append])
        clear ht htk hlen hlen2 hxe hi he hd hts hx htl
        go_wp2_with fail
        exact ⟨⟨1, u, by omega, by simp, rfl, HU.out, by first | trivial | rfl⟩, by simp only [intOf]; omega⟩
      · have hne : dl (T.take k) ≠ [] := by
          intro h
          have := congrArg List.length h
          unfold dl at this
          simp only [List.length_map, List.length_take, List.length_nil] at this
          omega
        have hj := joinL_snoc b x.data.toList hne
        rw [← htk] at hj
        have hsz : t.size + 1 + x.size ≤ 4194304 := by
          have := congrArg List.length hj
          simp only [List.length_append, List.length_cons, ← ht] at this
          omega
        obtain ⟨u0, e0, z0, c0⟩ := cat t ⟨#[b]⟩ 4194304 1 (by omega) (by show 1 ≤ 1; omega) (by omega)
        obtain ⟨u1, e1, z1, c1⟩ := cat u0 x 4194305 4194304 z0 (by omega) (by omega)
        have HU := Lib.hid (show u1.data.toList = joinL b (dl (T.take (k + 1))) by rw [hj, ← e1.out, ← e0.out, ← ht]; simp [ByteArray.data_append])
        have hk0 : (0 : Int) < (k : Int) := by omega
        have hi0 : (0 : Int) ≤ (k : Int) := by omega
        have hi1 : (k : Int) < (n : Int) := by omega
        clear ht htk hlen hlen2 hxe hi he hx htl hj hne hsz
        go_wp2_with fail
        exact ⟨⟨k + 1, u1, by omega, by simp, rfl, HU.out, by first | trivial | rfl⟩, by simp only [intOf]; omega⟩
    · obtain rfl : k = n := by omega
      have hte : T.take k = T := List.take_of_length_le (by omega)
      have HF := Lib.hid (show t = ⟨(joinL b (dl T)).toArray⟩ from bext (by rw [ht, hte]))
      have hkk : ¬ (k : Int) < (k : Int) := by omega
      clear ht hte hlen htl
      go_wp2_with fail
      refine bodyPost_ret (v := .string t) (by simp [*, results, Tryz.results99, go_sem]) rfl ⟨by rw [← HF.out], rfl⟩
theorem gF_sz (x : ByteArray) : (gF x).frm.size ≤ 1048576 ∧ (gF x).to.size ≤ 1048576 := by
  unfold gF
  cases h : psFac x with
  | none => exact ⟨by show (0 : Nat) ≤ 1048576; omega, by show (0 : Nat) ≤ 1048576; omega⟩
  | some f => exact vld_sz (psFac_text h).1
def EntRes1 (ln : List UInt8) (w : World) (e : Ending) (w' : World) : Prop :=
  ∃ (en : Entry), e = .returned (vEntryE en) ∧ entOk en ∧ (∀ p g, EntOf ln p g → g = en) ∧ Below w.heap.size w w'
theorem words_add {ln : List UInt8} {w0 z : ByteArray} {T : List ByteArray} (hL : (w0 :: (T ++ [z])).map (fun x => x.data.toList) = splitL (isB 32) [] ln) (h0 : w0.data.toList = [97, 100, 100]) {p : Int} {g : Entry} (h : EntOf ln p g) : ∃ f, g = ⟨false, 0, f⟩ ∧ psFac ⟨(joinL 32 (dl T)).toArray⟩ = some f := by
  rcases ent_words h hL with ⟨f, v0, U, y, hg, hv, he, _, hj⟩ | ⟨n, v0, v1, y, hg, he, hr, _⟩
  · simp only [List.cons.injEq] at he
    have ht := List.append_inj' he.2 (by simp)
    refine ⟨f, hg, psFac_some ⟨hv, ?_⟩⟩
    rw [ht.1]; unfold dl; rw [hj]
  · simp only [List.cons.injEq] at he
    rw [← he.1, h0] at hr; exact absurd hr (by decide)
theorem words_rem {ln : List UInt8} {L : List ByteArray} {w0 : ByteArray} (hL : L.map (fun x => x.data.toList) = splitL (isB 32) [] ln) (hw : L[0]? = some w0) (h0 : ¬ (w0.data.toList = [97, 100, 100] ∧ 1 < L.length)) {p : Int} {g : Entry} (h : EntOf ln p g) : ∃ n w1, g = ⟨true, n, zFac⟩ ∧ 1 < L.length ∧ L[1]? = some w1 ∧ psI w1 = some n := by
  rcases ent_words h hL with ⟨f, v0, U, y, hg, hv, rfl, h1, hj⟩ | ⟨n, v0, v1, y, hg, rfl, hr, hp⟩
  · simp only [List.getElem?_cons_zero, Option.some.injEq] at hw
    subst hw
    exact absurd ⟨h1, by simp⟩ h0
  · exact ⟨n, v1, hg, by simp, rfl, hp⟩
theorem spec_l27Entry_c (s : ByteArray) (w : World) (hs : s.size ≤ 1048576) : Calls Tryz.prog 74 #[.string s] w fun e w' => EntRes1 s.data.toList w e w' := by
  go_enter Tryz.func74, Tryz.ntmps74
  go_wp2_with fail
  refine Calls.mono (spec_SplitAny_k s 32 _ (by omega)) ?_
  rintro e w1_ ⟨v, L, rfl, ho, hL, hb1⟩
  have bx1 := (Bk.new w [.bool false, .int .i64 0, .int .i64 0, .int .i64 0, .string ⟨#[]⟩, .string ⟨#[]⟩, .int .i64 0, .int .i64 0, .int .i64 0, .int .i64 0] 46 _ rfl).below hb1
  have B1 : Below w.heap.size w w1_ := bTrans (bAlloc (Below.refl _ _) _) hb1
  have HL := Lib.hid hL
  have hlen : L.length = v.n := by have := ho.lens; simpa [Hid] using this
  have hrow : RowS w1_ v.A v.n L := ho.row
  have hws := word_size hL
  have hcnt := words_cnt hL
  have hnc := ho.nc
  simp only [maxLen] at hnc
  have hne : 0 < v.n := by
    rw [← hlen]
    rcases L with _ | ⟨a, l⟩
    · exact absurd hL.symm (splitL_ne _ _ _)
    · simp
  clear hb1 ho hL
  obtain ⟨A, n, c⟩ := v
  simp only at hlen hrow hnc hne
  obtain ⟨g, off, rfl⟩ := hrow.some_ hne
  obtain ⟨w0, h0⟩ := ex_at (L := L) (k := 0) (by omega)
  have c0 := RowS.get hrow h0
  simp only [Nat.add_zero] at c0
  have hgl : g < w1_.heap.size := cell_lt c0
  by_cases hadd : w0.data.toList = [97, 100, 100]
  · have ha : (w0.toList == [97, 100, 100]) = true := by rw [ByteArray.toList_eq, hadd]; rfl
    by_cases h1n : 1 < n
    · obtain ⟨T, z, rfl⟩ : ∃ T z, L = w0 :: (T ++ [z]) := by
        rcases L with _ | ⟨a, l⟩
        · simp at h0
        · simp only [List.getElem?_cons_zero, Option.some.injEq] at h0
          subst h0
          have hl : l ≠ [] := by intro h; rw [h] at hlen; simp at hlen; omega
          exact ⟨l.dropLast, l.getLast hl, by rw [List.dropLast_concat_getLast hl]⟩
      obtain ⟨m, rfl⟩ : ∃ m, n = m + 2 := ⟨n - 2, by omega⟩
      obtain ⟨d, rfl⟩ : ∃ d, c = d + 2 := ⟨c - 2, by omega⟩
      have hTl : T.length = m := by simp at hlen; omega
      have hrT : RowS w1_ (some ⟨g, off + 1, none⟩) m T := by
        have h1 := Row.drop_ (c := strCells) hrow (k := 1) (by omega)
        have h2 := Row.take_ h1 (k := m) (by omega)
        have e : ((w0 :: (T ++ [z])).drop 1).take m = T := by simp [← hTl]
        rw [e] at h2
        simpa using h2
      have hJ := joinL_mid 32 w0.data.toList z.data.toList (dl T)
      have hj := joinL_split 32 s.data.toList []
      rw [← HL.out, List.nil_append] at hj
      have hsl := bsize s
      rw [show (w0 :: (T ++ [z])).map (fun x => x.data.toList) = w0.data.toList :: (dl T ++ [z.data.toList]) by simp [dl]] at hj
      rw [hj, hsl] at hJ
      obtain ⟨J, hJe⟩ : ∃ J : ByteArray, J = ⟨(joinL 32 (dl T)).toArray⟩ := ⟨_, rfl⟩
      have hJs : J.size ≤ 1048576 := by rw [hJe, bsz]; omega
      have HW := Lib.hid (fun p g h => words_add HL.out hadd (p := p) (g := g) h)
      rw [← hJe] at HW
      have HJE := Lib.hid hJe
      have hJ4 : (joinL 32 (dl T)).length ≤ 4194304 := by omega
      have hms : m ≤ 4194304 := by simp only [hlen] at hcnt; omega
      have hm1 : (m : Int) + 1 ≤ (d : Int) + 2 := by omega
      have hm2 : (1 : Int) ≤ (m : Int) + 1 := by omega
      have hmx : (m : Int) ≤ 4194304 := by omega
      clear hJe hws hcnt hj hJ hsl hrow h0 hadd hlen
      go_wp2_with fail
      refine Calls.mono (spec_Join_c _ m _ T 32 _ hrT hms hJ4) ?_
      rw [← HJE.out]
      rintro e w2_ ⟨rfl, rfl⟩
      go_wp2_with fail
      refine Calls.mono (spec_ParseFactor_c J _ hJs) ?_
      rintro e w3_ ⟨rfl, hb3⟩
      have bx3 := bx1.below hb3
      have B3 := bTrans B1 hb3
      obtain ⟨o, HVF⟩ := vFac_gF J
      rw [HVF]
      have HN := Lib.hid (show ∀ p g, EntOf s.data.toList p g → g = ⟨false, 0, gF J⟩ from fun p g h => by obtain ⟨f, hg, hf⟩ := HW.out p g h; rw [hg]; unfold gF; rw [hf]; rfl)
      have HOK := Lib.hid (gF_sz J)
      obtain ⟨⟨fi, fk, ff, ft, ⟨pt, px, py⟩, fw⟩, hf⟩ : ∃ f, f = gF J := ⟨_, rfl⟩
      rw [← hf] at HN HOK ⊢
      have bx4 := bx3.alloc_ (.cells #[.int .i64 fi, .int .i64 fk, .string ff, .string ft, .int .i64 pt, .int .i64 px, .int .i64 py, .int .i64 fw] 38)
      have r0 := bx4.bx.cells 0 _ rfl; have r1 := bx4.bx.cells 1 _ rfl; have r2 := bx4.bx.cells 2 _ rfl; have r3 := bx4.bx.cells 3 _ rfl; have r4 := bx4.bx.cells 4 _ rfl; have r5 := bx4.bx.cells 5 _ rfl; have r6 := bx4.bx.cells 6 _ rfl; have r7 := bx4.bx.cells 7 _ rfl; have r8 := bx4.bx.cells 8 _ rfl; have r9 := bx4.bx.cells 9 _ rfl; have rf := bx4.bx.froz; have rz := bx4.lt
      clear HVF hf HW hb3 bx1 B1 c0 hrT
      go_wp2_with fail
      refine bodyPost_ret (v := vEntryE (⟨false, 0, ⟨fi, fk, ff, ft, ⟨pt, px, py⟩, fw⟩⟩)) (by simp [*, vEntryE, zFac, results, Tryz.results74, go_sem]) rfl ⟨⟨false, 0, ⟨fi, fk, ff, ft, ⟨pt, px, py⟩, fw⟩⟩, rfl, ?_, ?_, ?_⟩
      · exact ⟨HOK.out.1, HOK.out.2, by show (-9223372036854775808 : Int) ≤ 0; omega, by show (0 : Int) ≤ _; omega⟩
      · exact HN.out
      · exact b10 (bAlloc B3 _) (Nat.le_refl _) _ _ _ _ _ _ _ _ _ _
    · obtain rfl : n = 1 := by omega
      have HN := Lib.hid (show ∀ p g, ¬ EntOf s.data.toList p g from fun p g h => by obtain ⟨n, w1, _, hl, _⟩ := words_rem HL.out h0 (fun hc => by omega) h; omega)
      have r0 := bx1.bx.cells 0 _ rfl; have r1 := bx1.bx.cells 1 _ rfl; have r2 := bx1.bx.cells 2 _ rfl; have r3 := bx1.bx.cells 3 _ rfl; have r4 := bx1.bx.cells 4 _ rfl; have r5 := bx1.bx.cells 5 _ rfl; have r6 := bx1.bx.cells 6 _ rfl; have r7 := bx1.bx.cells 7 _ rfl; have r8 := bx1.bx.cells 8 _ rfl; have r9 := bx1.bx.cells 9 _ rfl; have rf := bx1.bx.froz; have rz := bx1.lt
      clear hws hcnt hrow h0 hadd hlen
      go_wp2_with fail
      refine bodyPost_ret (v := vEntryE (⟨true, 0, zFac⟩)) (by simp [*, vEntryE, zFac, results, Tryz.results74, go_sem]) rfl ⟨⟨true, 0, zFac⟩, rfl, ?_, ?_, ?_⟩
      · exact zFac_ok _ (by omega) (by omega)
      · intro p g h; exact absurd h (HN.out p g)
      · exact b10 B1 (Nat.le_refl _) _ _ _ _ _ _ _ _ _ _
  · have ha : (w0.toList == [97, 100, 100]) = false := by rw [ByteArray.toList_eq]; simpa using hadd
    have HW := Lib.hid (fun p g h => words_rem HL.out h0 (fun hc => hadd hc.1) (p := p) (g := g) h)
    by_cases h1n : 1 < n
    · obtain ⟨w1, h1⟩ := ex_at (L := L) (k := 1) (by omega)
      have c1 := RowS.get hrow h1
      have z1 := hws w1 (List.mem_of_getElem? h1)
      have h1i : (1 : Int) < (n : Int) := by omega
      have HN := Lib.hid (show ∀ p g, EntOf s.data.toList p g → g = ⟨true, (psI w1).getD 0, zFac⟩ from fun p g h => by obtain ⟨n, w1', hg, _, hw, hp⟩ := HW.out p g h; rw [h1] at hw; injection hw with hw; rw [hg, hw, hp]; rfl)
      have HV := Lib.hid (vPair_eq (psI w1))
      have hrg := psI_rng w1
      clear hws hcnt hrow h0 hadd HW h1 hlen
      go_wp2_with fail
      refine Calls.mono (spec_ParseInt_c w1 _ (by omega)) ?_
      rintro e w3_ ⟨rfl, hb3⟩
      have bx3 := bx1.below hb3
      have B3 := bTrans B1 hb3
      rw [HV.out]
      clear HV hb3 bx1 B1 c0 c1
      generalize (psI w1).getD 0 = nn at *
      have r0 := bx3.bx.cells 0 _ rfl; have r1 := bx3.bx.cells 1 _ rfl; have r2 := bx3.bx.cells 2 _ rfl; have r3 := bx3.bx.cells 3 _ rfl; have r4 := bx3.bx.cells 4 _ rfl; have r5 := bx3.bx.cells 5 _ rfl; have r6 := bx3.bx.cells 6 _ rfl; have r7 := bx3.bx.cells 7 _ rfl; have r8 := bx3.bx.cells 8 _ rfl; have r9 := bx3.bx.cells 9 _ rfl; have rf := bx3.bx.froz; have rz := bx3.lt
      go_wp2_with fail
      refine bodyPost_ret (v := vEntryE (⟨true, nn, zFac⟩)) (by simp [*, vEntryE, zFac, results, Tryz.results74, go_sem]) rfl ⟨⟨true, nn, zFac⟩, rfl, ?_, ?_, ?_⟩
      · exact zFac_ok _ (by omega) (by omega)
      · exact HN.out
      · exact b10 B3 (Nat.le_refl _) _ _ _ _ _ _ _ _ _ _
    · obtain rfl : n = 1 := by omega
      have HN := Lib.hid (show ∀ p g, ¬ EntOf s.data.toList p g from fun p g h => by obtain ⟨n, w1, _, hl, _⟩ := HW.out p g h; omega)
      have r0 := bx1.bx.cells 0 _ rfl; have r1 := bx1.bx.cells 1 _ rfl; have r2 := bx1.bx.cells 2 _ rfl; have r3 := bx1.bx.cells 3 _ rfl; have r4 := bx1.bx.cells 4 _ rfl; have r5 := bx1.bx.cells 5 _ rfl; have r6 := bx1.bx.cells 6 _ rfl; have r7 := bx1.bx.cells 7 _ rfl; have r8 := bx1.bx.cells 8 _ rfl; have r9 := bx1.bx.cells 9 _ rfl; have rf := bx1.bx.froz; have rz := bx1.lt
      clear hws hcnt hrow h0 hadd HW hlen
      go_wp2_with fail
      refine bodyPost_ret (v := vEntryE (⟨true, 0, zFac⟩)) (by simp [*, vEntryE, zFac, results, Tryz.results74, go_sem]) rfl ⟨⟨true, 0, zFac⟩, rfl, ?_, ?_, ?_⟩
      · exact zFac_ok _ (by omega) (by omega)
      · intro p g h; exact absurd h (HN.out p g)
      · exact b10 B1 (Nat.le_refl _) _ _ _ _ _ _ _ _ _ _
end Go.Proofs.YtebcdjpddoaajaaGreatDoor
