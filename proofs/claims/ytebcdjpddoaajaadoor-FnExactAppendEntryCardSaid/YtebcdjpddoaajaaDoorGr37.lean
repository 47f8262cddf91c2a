/- Texts of this proof, one behind the other: PsBunS, PsBunK, WParseBundle. -/
import Derived.Test.YtebcdjpddoaajaaDoorGr36
/- ParseBundle of the reference. -/
namespace Go.Proofs.YtebcdjpddoaajaaDoor
open Go.RowKit
set_option linter.unusedVariables false
set_option linter.unusedSimpArgs false
set_option maxHeartbeats 4000000
set_option maxRecDepth 100000

theorem fac_bulk {x : ByteArray} {f : Factor} (h : FacOf x f) : f.bulk ≤ x.size := by
  have h1 := congrArg List.length h.2
  have h2 : x.data.toList.length = x.size := by simp
  have h3 : f.frm.data.toList.length = f.frm.size := by simp
  have h4 : f.to.data.toList.length = f.to.size := by simp
  rw [h2] at h1
  unfold facL at h1
  simp only [List.length_append, List.length_cons] at h1
  unfold Factor.bulk
  by_cases hk : f.kind = 1
  · have e := (vld_parts h.1).2.2.2.2.1 hk
    rw [ByteArray.toList_eq] at e
    rw [show f.frm.data.toList = [] by simpa using e] at h3
    simp only [List.length_nil] at h3
    omega
  · unfold frmL at h1
    rw [if_neg hk, List.length_append] at h1
    omega
noncomputable def gF (x : ByteArray) : Factor := (psFac x).getD zFac'
def tot (T : List ByteArray) : Nat := sumBulk (fun x => x.size + 1) T
theorem tot_flat : ∀ T : List ByteArray, ((T.map fun x => x.data.toList).flatMap (fun x => (59 : UInt8) :: x)).length = tot T
  | [] => rfl
  | x :: T => by
    have ih := tot_flat T
    have h2 : x.data.toList.length = x.size := by simp
    simp only [List.map_cons, List.flatMap_cons, List.length_append, List.length_cons, tot, sumBulk] at ih ⊢
    omega
theorem gF_bulk (x : ByteArray) : (gF x).bulk ≤ x.size := by
  unfold gF
  cases h : psFac x with
  | none => exact Nat.zero_le _
  | some f => exact fac_bulk (psFac_text h)
theorem bulk_tot : ∀ T : List ByteArray, bulkF (T.map gF) ≤ tot T
  | [] => by simp [bulkF, tot, sumBulk]
  | x :: T => by
    have ih := bulk_tot T
    have h := gF_bulk x
    simp only [bulkF, tot, List.map_cons, sumBulk, List.length_cons] at ih ⊢
    omega
theorem parts_tot {s w0 : ByteArray} {T : List ByteArray} (hL : (w0 :: T).map (fun x => x.data.toList) = splitL (isB 59) [] s.data.toList) : tot T ≤ s.size := by
  have hj := joinL_split 59 s.data.toList []
  rw [← hL, List.map_cons, joinL_flat] at hj
  have h1 := congrArg List.length hj
  have h2 : s.data.toList.length = s.size := by simp
  rw [List.length_append, tot_flat, List.nil_append, h2] at h1
  omega
theorem wfz (n : Int) (h0 : -9223372036854775808 ≤ n) (h1 : n ≤ 9223372036854775807) : wfI n := by
  simp [wfI, Lit.wf, IntKind.min, IntKind.max, IntKind.signed, IntKind.bits]
  omega
theorem gF_ok (x : ByteArray) : Factor.ok (gF x) := by
  unfold gF
  cases h : psFac x with
  | none => exact ⟨by decide, by decide, wfz _ (by decide) (by decide), wfz _ (by decide) (by decide), wfz _ (by decide) (by decide), wfz _ (by decide) (by decide), wfz _ (by decide) (by decide), wfz _ (by decide) (by decide)⟩
  | some f =>
    have hv := (psFac_text h).1
    obtain ⟨h1, h2, h3, h4, _⟩ := vld_parts hv
    obtain ⟨t, x, y⟩ := pose_rng h3
    have i1 := inR_iff.1 h1; have i2 := inR_iff.1 h2
    have hs := vld_sz hv
    have w := wfz
    exact ⟨by simp only [maxLen, Option.getD_some]; omega, by simp only [maxLen, Option.getD_some]; omega, w _ (by simp only [Option.getD_some]; omega) (by simp only [Option.getD_some]; omega), w _ (by simp only [Option.getD_some]; omega) (by simp only [Option.getD_some]; omega), w _ (by simp only [Option.getD_some]; omega) (by simp only [Option.getD_some]; omega), w _ (by simp only [Option.getD_some]; omega) (by simp only [Option.getD_some]; omega), w _ (by simp only [Option.getD_some]; omega) (by simp only [Option.getD_some]; omega), w _ (by simp only [Option.getD_some]; omega) (by simp only [Option.getD_some]; omega)⟩
theorem map_gF {T : List ByteArray} {l : List Factor} (h : T.map psFac = l.map some) : T.map gF = l := by
  have e : T.map gF = (T.map psFac).map (fun o => o.getD zFac') := by rw [List.map_map]; rfl
  rw [e, h]; simp [Function.comp_def]
theorem bun_fin2 {s w0 x : ByteArray} {T L2 : List ByteArray} (hL : (w0 :: T).map (fun x => x.data.toList) = splitL (isB 59) [] s.data.toList) (hL2 : L2.map (fun x => x.data.toList) = splitL (isB 32) [] w0.data.toList) (hx : L2[L2.length - 1]? = some x) :
    (isBundle ((psI x).getD 0) (T.map gF) = true → bunT ((psI x).getD 0) (T.map gF) = s → psBun s = some ⟨(psI x).getD 0, T.map gF⟩) ∧ (isBundle ((psI x).getD 0) (T.map gF) = false ∨ ¬ bunT ((psI x).getD 0) (T.map gF) = s → psBun s = none) := by
  constructor
  · intro h1 h2; exact psBun_some ⟨h1, h2⟩
  · intro h
    refine psBun_none fun b hb => ?_
    obtain ⟨v0, U, e, h0, hT⟩ := bun_words hb hL
    simp only [List.cons.injEq] at e
    obtain ⟨rfl, rfl⟩ := e
    obtain ⟨a, rfl⟩ := bun_head h0 hL2
    have hxe : itoaB b.robot = x := by simpa using hx
    have hp := isBundle_parts hb.1
    have hr : psI x = some b.robot := psI_some (by omega) (by omega) hxe
    rw [hr, map_gF hT] at h
    rcases h with h | h
    · simp only [Option.getD_some] at h; rw [hb.1] at h; cases h
    · exact h hb.2
theorem fmtBun_ne {b : Bundle} (h : isBundle b.robot b.factors = true) : fmtBun b = bunT b.robot b.factors ∧ (fmtBun b).toList.isEmpty = false := by
  have e : fmtBun b = bunT b.robot b.factors := by unfold fmtBun; rw [if_pos h]
  refine ⟨e, ?_⟩
  rw [e, ByteArray.toList_eq, bun_data]; simp [bunL0]
theorem fmtBun_no {b : Bundle} (h : isBundle b.robot b.factors = false) : fmtBun b = ⟨#[]⟩ := by unfold fmtBun; rw [h]; rfl
theorem psI_rng (x : ByteArray) : -9223372036854775808 ≤ (psI x).getD 0 ∧ (psI x).getD 0 ≤ 9223372036854775807 := by
  cases h : psI x with
  | none => simp
  | some n => have := psI_text h; simp; omega
theorem take_gF {T : List ByteArray} {F : List Factor} {k : Nat} {x : ByteArray} (h : (T.take k).map gF = F) (hk : T[k]? = some x) : (T.take (k + 1)).map gF = F ++ [gF x] := by
  obtain ⟨hi, he⟩ := List.getElem?_eq_some_iff.1 hk
  rw [List.take_succ_eq_append_getElem hi, List.map_append, h, he]; rfl
theorem vFac_gF (x : ByteArray) : ∃ o, vFacO (psFac x) = .tuple #[vFactor (gF x).id (gF x).kind (gF x).frm (gF x).to (gF x).pose.turn (gF x).pose.x (gF x).pose.y (gF x).weight, .bool o] := ⟨_, vFacO_eq _⟩
theorem spec_ParseBundle_c (s : ByteArray) (w : World) (hs : s.size ≤ 1048576) : Calls Tryd.prog 32 #[.string s] w fun e w' => PBPost w s e w' := by
  obtain ⟨i0, hii, hq0, hq1, hq2⟩ := info_parts info_Factor
  go_enter Tryd.func32, Tryd.ntmps32
  go_wp2_with fail
  refine Calls.mono (spec_SplitAny_k s 59 _ (by omega)) ?_
  rintro e w1_ ⟨v, L, rfl, ho, hL, hb1⟩
  have bx1 := (Bk.new w [.int .i64 0, .slice none 0 0] 47 _ rfl).below hb1
  have B1 : Below w.heap.size w w1_ := bTrans (bAlloc (Below.refl _ _) _) hb1
  have HL := Lib.hid hL
  have hlen : L.length = v.n := by have := ho.lens; simpa [Hid] using this
  have hrow : RowS w1_ v.A v.n L := ho.row
  have hws := word_size hL
  have hcnt := words_cnt hL
  have hnc := ho.nc
  simp only [maxLen] at hnc
  have hne : L ≠ [] := by
    intro h; rw [h] at hL; exact splitL_ne _ _ _ hL.symm
  clear hb1 ho hL
  obtain ⟨A, n, c⟩ := v
  simp only at hlen hrow hnc
  obtain ⟨w0, T, rfl⟩ : ∃ w0 T, L = w0 :: T := by
    cases L with
    | nil => exact absurd rfl hne
    | cons a l => exact ⟨a, l, rfl⟩
  obtain ⟨m, rfl⟩ : ∃ m, n = m + 1 := ⟨n - 1, by simp at hlen; omega⟩
  obtain ⟨d, rfl⟩ : ∃ d, c = d + 1 := ⟨c - 1, by omega⟩
  have hTl : T.length = m := by simpa using hlen
  have hms : m ≤ 1048576 := by simp at hcnt; omega
  have htot := parts_tot HL.out
  obtain ⟨g, off, rfl⟩ := hrow.some_ (by omega)
  have c0 := RowS.get hrow (k := 0) (f := w0) rfl
  simp only [Nat.add_zero] at c0
  have hz0 := hws w0 (by simp)
  have HWS := Lib.hid (fun x hx => hws x (List.mem_cons_of_mem w0 hx))
  have hrow1 : RowS w1_ (some ⟨g, off + 1, none⟩) m T := by
    have := Row.drop_ (c := strCells) hrow (k := 1) (by omega)
    simpa using this
  have HROW := Lib.hid hrow1
  have hnc2 : (m : Int) + 1 ≤ (d : Int) + 1 := by omega
  have hg1 := cell_lt c0
  have hgP : ¬ g = w1_.heap.size := by simp only at hg1; omega
  have BX13 := Lib.hid bx1
  have hBsz := B1.size
  have hlt1 := bx1.lt
  clear hws hne hrow hrow1 hcnt
  go_wp2_with fail
  refine Calls.mono (spec_SplitAny_k w0 32 _ (by omega)) ?_
  rintro e w2_ ⟨v2, L2, rfl, ho2, hL2, hb2⟩
  have px2 := (Bk.new w1_ [.int .i64 0, .slice none 0 0] 47 _ rfl).below hb2
  have B12 : Below w1_.heap.size w1_ w2_ := bTrans (bAlloc (Below.refl _ _) _) hb2
  have hlen2 : L2.length = v2.n := by have := ho2.lens; simpa [Hid] using this
  have hrow2 : RowS w2_ v2.A v2.n L2 := ho2.row
  have hws2 := word_size hL2
  have hnc3 := ho2.nc
  simp only [maxLen] at hnc3
  have hne2 : 0 < v2.n := by
    rw [← hlen2]
    rcases L2 with _ | ⟨a, l⟩
    · exact absurd hL2.symm (splitL_ne _ _ _)
    · simp
  obtain ⟨A2, n2, c2⟩ := v2
  simp only at hlen2 hrow2 hnc3 hne2
  obtain ⟨g2, off2, rfl⟩ := hrow2.some_ hne2
  obtain ⟨x, hx⟩ := ex_at (L := L2) (k := L2.length - 1) (by omega)
  have cx := RowS.get hrow2 hx
  rw [hlen2] at cx
  have hxz := hws2 x (List.mem_of_getElem? hx)
  have hend0 := bun_fin2 HL.out hL2 hx
  obtain ⟨r, hr⟩ : ∃ r, r = (psI x).getD 0 := ⟨_, rfl⟩
  have hrr := psI_rng x
  rw [← hr] at hend0 hrr
  have HEND := Lib.hid hend0
  have HV := Lib.hid (show vPair (psI x) = .tuple #[.int .i64 r, .bool (psI x).isSome] by rw [hr]; exact vPair_eq _)
  have HRW : Hid (wfI r) := wfz _ hrr.1 hrr.2
  have e1 : wrap64 ((n2 : Int) - 1) = (n2 : Int) - 1 := IntWalk.wrap64_in _ ⟨by omega, by omega⟩
  have i1 : (0 : Int) ≤ (n2 : Int) - 1 := by omega
  have j1 : (n2 : Int) - 1 < (n2 : Int) := by omega
  clear hend0 hr hrr hws2 hrow2 ho2 hL2 hb2 hx c0
  go_wp2_with fail
  refine Calls.mono (spec_ParseInt_c x _ (by omega)) ?_
  rintro e w3_ ⟨rfl, hb3⟩
  rw [HV.out]
  have px3 := px2.below hb3
  have B13 := bTrans B12 hb3
  have hz3 := hb3.size
  have hzp := px2.lt
  have bx3 := bx1
  clear hb3 px2 B12 cx bx1 hne2
  have q0 := px3.bx.cells 0 _ rfl; have q1 := px3.bx.cells 1 _ rfl; have qf := px3.bx.froz; have qz := px3.lt
  by_cases hd : d = 0
  · subst hd
    have hm0 : m = 0 := by omega
    go_wp2_with fail
    go_loopw [32] (fun iv wr => ∃ (k : Nat) (A' : Option Addr) (c' : Nat) (F : List Factor), iv = .int .i64 (k : Int) ∧ k ≤ m ∧ F.length = k ∧ (T.take k).map gF = F ∧ Own wr w3_.heap.size 28 8 A' k c' (F.map Factor.cells) ∧ Bk wr w1_.heap.size 47 [.int .i64 r, .slice A' k c'] ∧ Below w1_.heap.size w1_ wr ∧ w3_.heap.size ≤ wr.heap.size) (fun iv _ => m - (intOf iv).toNat)
    case atStart => exact ⟨0, none, 0, [], rfl, by omega, rfl, rfl, Own.nil_ _ _ _ _, px3.set 0 (.int .i64 r), bSet B13 (Nat.le_refl _) _, by simp⟩
    case round =>
      obtain ⟨k, A', c', F, rfl, hk, hFl, hF, ho, hp, hbr, hz⟩ := hrel
      have HO := Lib.hid ho; have HF := Lib.hid hF; clear ho hF px3 bx3
      have hszr := hbr.size
      have hlt : ¬ k < m := by omega
      clear hm0 hnc hnc2
      obtain rfl : k = m := by omega
      have hkk : ¬ (k : Int) < (k : Int) := by omega
      have hTk : T.take k = T := List.take_of_length_le (by omega)
      have hF2 : T.map gF = F := by have := HF.out; rw [hTk] at this; exact this
      have hend := HEND.out; rw [hF2] at hend
      have hbk : bulkB ⟨r, F⟩ ≤ 1048576 := by show bulkF F ≤ _; rw [← hF2]; have := bulk_tot T; omega
      have hokb : okB ⟨r, F⟩ := ⟨HRW.out, by rw [← hF2]; intro f hf; obtain ⟨x, _, rfl⟩ := List.mem_map.1 hf; exact gF_ok x⟩
      clear hF2 hTk
      have HRD : Hid (RdB wr ⟨A', k, c'⟩ ⟨r, F⟩) := HO.out.row
      have HBK := Lib.hid hbk; have HOK := Lib.hid hokb; clear hbk hokb
      have bx := BX13.out.below hbr
      have q0 := hp.bx.cells 0 _ rfl; have q1 := hp.bx.cells 1 _ rfl; have qf := hp.bx.froz; have qz := hp.lt
      cases hv : isBundle r F with
      | false =>
        have HN := Lib.hid (hend.2 (.inl hv))
        have HV := Lib.hid (fmtBun_no (b := ⟨r, F⟩) hv)
        clear hend hv
        go_wp2_with (go_at_call 72; refine (spec_FormatBundle_k ⟨A', k, c'⟩ ⟨r, F⟩ _ HBK.out HOK.out HRD.out).mono ?_; rw [HV.out]; rintro e w6_ ⟨rfl, hb6⟩; have hp6 := hp.below hb6; have hbr6 := bTrans hbr hb6; have bx6 := bx.below hb6; have s0 := hp6.bx.cells 0 _ rfl; have s1 := hp6.bx.cells 1 _ rfl; have sf := hp6.bx.froz; have sz := hp6.lt; have r0 := bx6.bx.cells 0 _ rfl; have r1 := bx6.bx.cells 1 _ rfl; have rf := bx6.bx.froz; have rz := bx6.lt)
        refine bodyPost_ret (v := .tuple #[vBundle 0 none 0 0, .bool false]) (by simp [*, results, Tryd.results32, go_sem]) rfl ⟨?_, .inr ⟨HN.out, rfl⟩⟩
        exact b2 (bTrans B1 hbr6) (Nat.le_refl _) _ _
      | true =>
        obtain ⟨hfe, hne⟩ := fmtBun_ne (b := ⟨r, F⟩) hv
        have tok1 : True := trivial
        cases he : ((fmtBun ⟨r, F⟩).toList == s.toList) with
        | true =>
          have HP := Lib.hid (hend.1 hv (hfe ▸ toL_inj (eq_of_beq he)))
          clear hend hv hfe
          go_wp2_with (first | (have _t := tok1; go_at_call 72; refine (spec_FormatBundle_k ⟨A', k, c'⟩ ⟨r, F⟩ _ HBK.out HOK.out HRD.out).mono ?_; rintro e w6_ ⟨rfl, hb6⟩; have hp6 := hp.below hb6; have hbr6 := bTrans hbr hb6; have bx6 := bx.below hb6; have s0 := hp6.bx.cells 0 _ rfl; have s1 := hp6.bx.cells 1 _ rfl; have sf := hp6.bx.froz; have sz := hp6.lt; clear tok1) | (go_at_call 72; refine (spec_FormatBundle_k ⟨A', k, c'⟩ ⟨r, F⟩ _ HBK.out HOK.out (Row.below HRD.out hb6)).mono ?_; rintro e w7_ ⟨rfl, hb7⟩; have hp7 := hp6.below hb7; have hbr7 := bTrans hbr6 hb7; have bx7 := bx6.below hb7; have t0 := hp7.bx.cells 0 _ rfl; have t1 := hp7.bx.cells 1 _ rfl; have tf := hp7.bx.froz; have tz := hp7.lt; have r0 := bx7.bx.cells 0 _ rfl; have r1 := bx7.bx.cells 1 _ rfl; have rf := bx7.bx.froz; have rz := bx7.lt))
          have ho7 := Own.set_ (Own.set_ ((HO.out.below hb6).below hb7) (p := ⟨w.heap.size, 0, none⟩) (by simp only; omega) (.int .i64 r)) (p := ⟨w.heap.size, 1, none⟩) (by simp only; omega) (.slice A' k c')
          refine bodyPost_ret (v := .tuple #[vBundle r A' k c', .bool true]) (by simp [*, results, Tryd.results32, go_sem]) rfl ⟨?_, .inl ⟨⟨r, F⟩, ⟨A', k, c'⟩, HP.out, rfl, ho7.zero, Fresh.rebase (Fresh.obl_ ho7) (by omega)⟩⟩
          exact b2 (bTrans B1 hbr7) (Nat.le_refl _) _ _
        | false =>
          have HN := Lib.hid (hend.2 (.inr fun h => by rw [hfe, h] at he; simp at he))
          clear hend hv hfe
          go_wp2_with (first | (have _t := tok1; go_at_call 72; refine (spec_FormatBundle_k ⟨A', k, c'⟩ ⟨r, F⟩ _ HBK.out HOK.out HRD.out).mono ?_; rintro e w6_ ⟨rfl, hb6⟩; have hp6 := hp.below hb6; have hbr6 := bTrans hbr hb6; have bx6 := bx.below hb6; have s0 := hp6.bx.cells 0 _ rfl; have s1 := hp6.bx.cells 1 _ rfl; have sf := hp6.bx.froz; have sz := hp6.lt; clear tok1) | (go_at_call 72; refine (spec_FormatBundle_k ⟨A', k, c'⟩ ⟨r, F⟩ _ HBK.out HOK.out (Row.below HRD.out hb6)).mono ?_; rintro e w7_ ⟨rfl, hb7⟩; have hp7 := hp6.below hb7; have hbr7 := bTrans hbr6 hb7; have bx7 := bx6.below hb7; have t0 := hp7.bx.cells 0 _ rfl; have t1 := hp7.bx.cells 1 _ rfl; have tf := hp7.bx.froz; have tz := hp7.lt; have r0 := bx7.bx.cells 0 _ rfl; have r1 := bx7.bx.cells 1 _ rfl; have rf := bx7.bx.froz; have rz := bx7.lt))
          refine bodyPost_ret (v := .tuple #[vBundle 0 none 0 0, .bool false]) (by simp [*, results, Tryd.results32, go_sem]) rfl ⟨?_, .inr ⟨HN.out, rfl⟩⟩
          exact b2 (bTrans B1 hbr7) (Nat.le_refl _) _ _
  · have hd1 : (1 : Int) < (d : Int) + 1 := by omega
    go_wp2_with fail
    go_loopw [32] (fun iv wr => ∃ (k : Nat) (A' : Option Addr) (c' : Nat) (F : List Factor), iv = .int .i64 (k : Int) ∧ k ≤ m ∧ F.length = k ∧ (T.take k).map gF = F ∧ Own wr w3_.heap.size 28 8 A' k c' (F.map Factor.cells) ∧ Bk wr w1_.heap.size 47 [.int .i64 r, .slice A' k c'] ∧ Below w1_.heap.size w1_ wr ∧ w3_.heap.size ≤ wr.heap.size) (fun iv _ => m - (intOf iv).toNat)
    case atStart => exact ⟨0, none, 0, [], rfl, by omega, rfl, rfl, Own.nil_ _ _ _ _, px3.set 0 (.int .i64 r), bSet B13 (Nat.le_refl _) _, by simp⟩
    case round =>
      obtain ⟨k, A', c', F, rfl, hk, hFl, hF, ho, hp, hbr, hz⟩ := hrel
      have HO := Lib.hid ho; have HF := Lib.hid hF; clear ho hF px3 bx3
      have hszr := hbr.size
      by_cases hlt : k < m
      · obtain ⟨x, hx⟩ := ex_at (L := T) (k := k) (by omega)
        have cx := bCell hbr (RowS.get HROW.out hx)
        have hxs := HWS.out x (List.mem_of_getElem? hx)
        have hi0 : (0 : Int) ≤ (k : Int) := by omega
        have hi1 : (k : Int) < (m : Int) := by omega
        have HXP := Lib.hid hx
        clear hx
        go_wp2_with fail
        refine Calls.mono (spec_ParseFactor_c x _ (by omega)) ?_
        rintro e w4_ ⟨rfl, hb4⟩
        clear cx
        have hbr4 := bTrans hbr hb4
        have hp4 := hp.below hb4
        have hz4 : w3_.heap.size ≤ w4_.heap.size := Nat.le_trans hz hb4.size
        have HO4 := Lib.hid (HO.out.below hb4)
        have HS := Lib.hid (take_gF HF.out HXP.out)
        obtain ⟨o, HVF⟩ := vFac_gF x
        rw [HVF]
        obtain ⟨f, hf⟩ : ∃ f, f = gF x := ⟨_, rfl⟩
        rw [← hf] at HS ⊢
        clear HXP HF HVF hf
        have hp5 := hp4.alloc_ (.cells f.cells.toArray 28)
        have hnP : ¬ w1_.heap.size = w4_.heap.size := by have := hp4.lt; omega
        have q0 := hp4.bx.cells 0 _ rfl; have q1 := hp4.bx.cells 1 _ rfl; have qf := hp4.bx.froz; have qz := hp4.lt
        have s0 := hp5.bx.cells 0 _ rfl; have s1 := hp5.bx.cells 1 _ rfl; have sf := hp5.bx.froz; have sz := hp5.lt
        go_wp2_with (at_builtin; refine wpList_append rfl (.tmp 42) (.tmp 44) 23 rfl w3_.heap.size 28 8 80 i0 _ Tryd.underlying23 hii hq0 hq1 hq2 rfl (by omega) A' k c' (F.map Factor.cells) rfl ((HO4.out.alloc_ _).alloc_ _) _ 1 1 [f.cells] rfl (Row.new1' _ _ f.cells 8 _ (by simp)) (by simp [Factor.cells]) (by simp [Factor.cells, Value.oneCell']) (by simp only [maxLen]; omega) (by omega) (by simp; omega) ?_; intro A5 c5 w5_ ho5 hg5 hat5; have hp6 := (hp4.alloc_ (.cells f.cells.toArray 28)).alloc_ (.cells f.cells.toArray 28); have hp7 := bk_grown hg5 hp6 (fun e => by have := (HO4.out.lt _ e).1; omega); have t0 := hp7.bx.cells 0 _ rfl; have t1 := hp7.bx.cells 1 _ rfl; have tf := hp7.bx.froz; have tz := hp7.lt)
        have ho6 : Own (w5_.setCell ⟨w1_.heap.size, 1, none⟩ (.slice A5 (k + 1) c5)) w3_.heap.size 28 8 A5 (k + 1) c5 ((F ++ [f]).map Factor.cells) := by rw [List.map_append]; exact Own.set_ ho5 (by simp only; omega) _
        have hB5 := bGrown (bAlloc (bAlloc hbr4 (.cells f.cells.toArray 28)) (.cells f.cells.toArray 28)) hg5 (fun q hq => by have := (HO4.out.lt q hq).1; omega)
        have hz5 : w3_.heap.size ≤ w5_.heap.size := by have := hp7.lt; have := hg5.size; simp at this; omega
        exact ⟨⟨k + 1, A5, c5, F ++ [f], by simp, by omega, by simp [hFl], HS.out, ho6, hp7.set 1 _, bSet hB5 (Nat.le_refl _) _, by simpa using hz5⟩, by simp only [intOf]; omega⟩
      · obtain rfl : k = m := by omega
        have hkk : ¬ (k : Int) < (k : Int) := by omega
        have hTk : T.take k = T := List.take_of_length_le (by omega)
        have hF2 : T.map gF = F := by have := HF.out; rw [hTk] at this; exact this
        have hend := HEND.out; rw [hF2] at hend
        have hbk : bulkB ⟨r, F⟩ ≤ 1048576 := by show bulkF F ≤ _; rw [← hF2]; have := bulk_tot T; omega
        have hokb : okB ⟨r, F⟩ := ⟨HRW.out, by rw [← hF2]; intro f hf; obtain ⟨x, _, rfl⟩ := List.mem_map.1 hf; exact gF_ok x⟩
        clear hF2 hTk
        have HRD : Hid (RdB wr ⟨A', k, c'⟩ ⟨r, F⟩) := HO.out.row
        have HBK := Lib.hid hbk; have HOK := Lib.hid hokb; clear hbk hokb
        have bx := BX13.out.below hbr
        have q0 := hp.bx.cells 0 _ rfl; have q1 := hp.bx.cells 1 _ rfl; have qf := hp.bx.froz; have qz := hp.lt
        cases hv : isBundle r F with
        | false =>
          have HN := Lib.hid (hend.2 (.inl hv))
          have HV := Lib.hid (fmtBun_no (b := ⟨r, F⟩) hv)
          clear hend hv
          go_wp2_with (go_at_call 72; refine (spec_FormatBundle_k ⟨A', k, c'⟩ ⟨r, F⟩ _ HBK.out HOK.out HRD.out).mono ?_; rw [HV.out]; rintro e w6_ ⟨rfl, hb6⟩; have hp6 := hp.below hb6; have hbr6 := bTrans hbr hb6; have bx6 := bx.below hb6; have s0 := hp6.bx.cells 0 _ rfl; have s1 := hp6.bx.cells 1 _ rfl; have sf := hp6.bx.froz; have sz := hp6.lt; have r0 := bx6.bx.cells 0 _ rfl; have r1 := bx6.bx.cells 1 _ rfl; have rf := bx6.bx.froz; have rz := bx6.lt)
          refine bodyPost_ret (v := .tuple #[vBundle 0 none 0 0, .bool false]) (by simp [*, results, Tryd.results32, go_sem]) rfl ⟨?_, .inr ⟨HN.out, rfl⟩⟩
          exact b2 (bTrans B1 hbr6) (Nat.le_refl _) _ _
        | true =>
          obtain ⟨hfe, hne⟩ := fmtBun_ne (b := ⟨r, F⟩) hv
          have tok1 : True := trivial
          cases he : ((fmtBun ⟨r, F⟩).toList == s.toList) with
          | true =>
            have HP := Lib.hid (hend.1 hv (hfe ▸ toL_inj (eq_of_beq he)))
            clear hend hv hfe
            go_wp2_with (first | (have _t := tok1; go_at_call 72; refine (spec_FormatBundle_k ⟨A', k, c'⟩ ⟨r, F⟩ _ HBK.out HOK.out HRD.out).mono ?_; rintro e w6_ ⟨rfl, hb6⟩; have hp6 := hp.below hb6; have hbr6 := bTrans hbr hb6; have bx6 := bx.below hb6; have s0 := hp6.bx.cells 0 _ rfl; have s1 := hp6.bx.cells 1 _ rfl; have sf := hp6.bx.froz; have sz := hp6.lt; clear tok1) | (go_at_call 72; refine (spec_FormatBundle_k ⟨A', k, c'⟩ ⟨r, F⟩ _ HBK.out HOK.out (Row.below HRD.out hb6)).mono ?_; rintro e w7_ ⟨rfl, hb7⟩; have hp7 := hp6.below hb7; have hbr7 := bTrans hbr6 hb7; have bx7 := bx6.below hb7; have t0 := hp7.bx.cells 0 _ rfl; have t1 := hp7.bx.cells 1 _ rfl; have tf := hp7.bx.froz; have tz := hp7.lt; have r0 := bx7.bx.cells 0 _ rfl; have r1 := bx7.bx.cells 1 _ rfl; have rf := bx7.bx.froz; have rz := bx7.lt))
            have ho7 := Own.set_ (Own.set_ ((HO.out.below hb6).below hb7) (p := ⟨w.heap.size, 0, none⟩) (by simp only; omega) (.int .i64 r)) (p := ⟨w.heap.size, 1, none⟩) (by simp only; omega) (.slice A' k c')
            refine bodyPost_ret (v := .tuple #[vBundle r A' k c', .bool true]) (by simp [*, results, Tryd.results32, go_sem]) rfl ⟨?_, .inl ⟨⟨r, F⟩, ⟨A', k, c'⟩, HP.out, rfl, ho7.zero, Fresh.rebase (Fresh.obl_ ho7) (by omega)⟩⟩
            exact b2 (bTrans B1 hbr7) (Nat.le_refl _) _ _
          | false =>
            have HN := Lib.hid (hend.2 (.inr fun h => by rw [hfe, h] at he; simp at he))
            clear hend hv hfe
            go_wp2_with (first | (have _t := tok1; go_at_call 72; refine (spec_FormatBundle_k ⟨A', k, c'⟩ ⟨r, F⟩ _ HBK.out HOK.out HRD.out).mono ?_; rintro e w6_ ⟨rfl, hb6⟩; have hp6 := hp.below hb6; have hbr6 := bTrans hbr hb6; have bx6 := bx.below hb6; have s0 := hp6.bx.cells 0 _ rfl; have s1 := hp6.bx.cells 1 _ rfl; have sf := hp6.bx.froz; have sz := hp6.lt; clear tok1) | (go_at_call 72; refine (spec_FormatBundle_k ⟨A', k, c'⟩ ⟨r, F⟩ _ HBK.out HOK.out (Row.below HRD.out hb6)).mono ?_; rintro e w7_ ⟨rfl, hb7⟩; have hp7 := hp6.below hb7; have hbr7 := bTrans hbr6 hb7; have bx7 := bx6.below hb7; have t0 := hp7.bx.cells 0 _ rfl; have t1 := hp7.bx.cells 1 _ rfl; have tf := hp7.bx.froz; have tz := hp7.lt; have r0 := bx7.bx.cells 0 _ rfl; have r1 := bx7.bx.cells 1 _ rfl; have rf := bx7.bx.froz; have rz := bx7.lt))
            refine bodyPost_ret (v := .tuple #[vBundle 0 none 0 0, .bool false]) (by simp [*, results, Tryd.results32, go_sem]) rfl ⟨?_, .inr ⟨HN.out, rfl⟩⟩
            exact b2 (bTrans B1 hbr7) (Nat.le_refl _) _ _
end Go.Proofs.YtebcdjpddoaajaaDoor

/- ParseBundle, as the exact laws ask for it. -/
namespace Go.Proofs.YtebcdjpddoaajaaDoor
open Go.RowKit
set_option linter.unusedVariables false
set_option linter.unusedSimpArgs false
noncomputable def pb (s : ByteArray) : Bundle × Bool := match psBun s with | some b => (b, true) | none => (⟨0, []⟩, false)
theorem few_pb (s : ByteArray) : fewB (pb s).1 := by
  unfold pb
  cases h : psBun s with
  | none => show ([] : List Factor).length ≤ 1048576; simp
  | some b =>
    have := (isBundle_parts (psBun_text h).1).2.2.1
    show b.factors.length ≤ 1048576
    omega
theorem pb_post {w w' : World} {s : ByteArray} {e : Ending} (h : PBPost w s e w') : ∃ v : Sv, e = .returned (.tuple #[vBundle (pb s).1.robot v.A v.n v.c, .bool (pb s).2]) ∧ OwB w' v (pb s).1 ∧ Fresh w.heap.size w' (fpB v) ∧ Below w.heap.size w w' := by
  obtain ⟨hb, ⟨b, v, h1, rfl, h3, h4⟩ | ⟨h1, rfl⟩⟩ := h
  · unfold pb; rw [h1]
    exact ⟨v, rfl, h3, h4, hb⟩
  · unfold pb; rw [h1]
    exact ⟨⟨none, 0, 0⟩, rfl, Own.nil_ _ _ _ _, Fresh.nil _ _, hb⟩
theorem spec_ParseBundle_k (s : ByteArray) (w : World) (hs : s.size ≤ 1048576) : Calls Tryd.prog 32 #[.string s] w fun e w' => ∃ v : Sv, e = .returned (.tuple #[vBundle (pb s).1.robot v.A v.n v.c, .bool (pb s).2]) ∧ OwB w' v (pb s).1 ∧ Fresh w.heap.size w' (fpB v) ∧ Below w.heap.size w w' :=
  (spec_ParseBundle_c s w hs).mono fun _ _ h => pb_post h
theorem impl_ParseBundle_k (s : ByteArray) (w : World) (hs : s.size ≤ 1048576) (hT : TabE w) : Calls Tryd.prog 23 #[.string s] w fun e w' => ∃ v : Sv, e = .returned (.tuple #[vBundle (pb s).1.robot v.A v.n v.c, .bool (pb s).2]) ∧ OwB w' v (pb s).1 ∧ Fresh w.heap.size w' (fpB v) ∧ Below w.heap.size w w' :=
  (impl_ParseBundle_c s w hs hT).mono fun _ _ h => pb_post h
end Go.Proofs.YtebcdjpddoaajaaDoor

/- The walk of the law FnExactParseBundle. -/
namespace Go.Proofs.YtebcdjpddoaajaaDoor
open Go.RowKit
set_option linter.unusedVariables false
set_option linter.unusedSimpArgs false
set_option maxHeartbeats 1600000
set_option maxRecDepth 100000
theorem w_FnExactParseBundle (W : World) (d0 : ByteArray) (wf0 : d0.size ≤ maxLen) (hT : TabE W) :
    Calls Tryd.prog 6 #[.string d0] W fun e w' => e = rBool true ∧ Below W.heap.size W w' := by
  have HT := Lib.hid hT
  clear hT
  go_enter Tryd.func6, Tryd.ntmps6
  by_cases hlong0 : d0.size ≤ 1048576
  rotate_left
  · go_wp2_with fail
    go_ret
    exact ⟨rfl, by repeat (first | exact Below.refl _ _ | refine bAlloc ?_ _)⟩
  go_wp2_with fail
  refine Calls.mono (spec_ParseBundle_k d0 _ hlong0) ?_
  rintro e w1 ⟨v_w0, rfl, ho_w0, hf_w0, hb1⟩
  have hk1 : Below W.heap.size W w1 := bTrans (by repeat (first | with_reducible exact Below.refl _ _ | with_reducible refine bAlloc ?_ _)) hb1
  have hs1 := hk1.size
  have hz1 := hb1.size
  (try simp at hz1)
  have H := bTrans (Below.refl _ W) hk1
  have hlo_w0 : Hid (∀ q ∈ fpB v_w0, W.heap.size ≤ q) := fun q hq => by have h1 := hf_w0.lo q hq; (try simp at h1); omega
  have hhi_w0 : Hid (∀ q ∈ fpB v_w0, q < w1.heap.size) := hf_w0.hi
  go_wp2_with fail
  refine Calls.mono (impl_ParseBundle_k d0 _ hlong0 ?_) ?_
  · exact HT.out.below (by repeat (first | with_reducible exact H | with_reducible refine bAlloc ?_ _))
  rintro e w2 ⟨v_g0, rfl, ho_g0, hf_g0, hb2⟩
  have hk2 : Below w1.heap.size w1 w2 := bTrans (by repeat (first | with_reducible exact Below.refl _ _ | with_reducible refine bAlloc ?_ _)) hb2
  have hs2 := hk2.size
  have hz2 := hb2.size
  (try simp at hz2)
  have kb2_w0 := bBox hb2 (w1.heap.size) (by first | omega | (simp; done) | (simp; omega))
  have hlt2_w0 : w1.heap.size < w2.heap.size := by omega
  have ho_w0 := ho_w0.below hk2
  have H := bTrans H hk2
  have hlo_g0 : Hid (∀ q ∈ fpB v_g0, w1.heap.size + 1 ≤ q) := fun q hq => by have h1 := hf_g0.lo q hq; (try simp at h1); omega
  have hhi_g0 : Hid (∀ q ∈ fpB v_g0, q < w2.heap.size) := hf_g0.hi
  go_wp2_with fail
  refine Calls.mono (eqBundle_k v_g0 v_w0 ((pb d0).1) _ (few_pb d0) ?_ ?_) ?_
  · exact (ho_g0.rd.below (by repeat (first | with_reducible exact Below.refl _ _ | with_reducible refine bAlloc ?_ _)))
  · exact (ho_w0.rd.below (by repeat (first | with_reducible exact Below.refl _ _ | with_reducible refine bAlloc ?_ _)))
  rintro e w3 ⟨rfl, hb3⟩
  have hk3 : Below w2.heap.size w2 w3 := bTrans (by repeat (first | with_reducible exact Below.refl _ _ | with_reducible refine bAlloc ?_ _)) hb3
  have hs3 := hk3.size
  have hz3 := hb3.size
  (try simp at hz3)
  have kb3_w0 := bBox hk3 (w1.heap.size) (by omega)
  have kb3_g0 := bBox hb3 (w2.heap.size) (by first | omega | (simp; done) | (simp; omega))
  have hlt3_w0 : w1.heap.size < w3.heap.size := by omega
  have hlt3_g0 : w2.heap.size < w3.heap.size := by omega
  have ho_w0 := ho_w0.below hk3
  have ho_g0 := ho_g0.below hk3
  have H := bTrans H hk3
  go_wp2_with fail
  refine Calls.mono (markBundle_k v_g0 ((pb d0).1) _ _ (by omega) (by omega) (few_pb d0) ?_ hf_g0.nodup) ?_
  · exact (ho_g0.below (by repeat (first | with_reducible exact Below.refl _ _ | with_reducible refine bAlloc ?_ _)))
  rintro e w4 ⟨rfl, ho_g0n, hu4⟩
  have hv4 : Upd (fpB v_g0) w3 w4 := (Upd.of_below (by repeat (first | with_reducible exact Below.refl _ _ | with_reducible refine bAlloc ?_ _))).trans hu4
  have hs4 := hv4.size
  have hz4 := hu4.size
  (try simp at hz4)
  have kb4_w0 := uBox hv4 (w1.heap.size) (by omega) (fun hm => by have h1 := hlo_g0.out _ hm; have h2 := hhi_g0.out _ hm; omega)
  have kb4_g0 := uBox hv4 (w2.heap.size) (by omega) (fun hm => by have h1 := hlo_g0.out _ hm; have h2 := hhi_g0.out _ hm; omega)
  have hlt4_w0 : w1.heap.size < w4.heap.size := by omega
  have hlt4_g0 : w2.heap.size < w4.heap.size := by omega
  have ho_w0 := ho_w0.upd hv4 (fun q hq hm => by have h1 := hlo_w0.out q hq; have h2 := hhi_w0.out q hq; have h3 := hlo_g0.out q hm; have h4 := hhi_g0.out q hm; omega)
  have H := bUpd H hv4 (fun q hq => by have h1 := hlo_g0.out q hq; omega)
  have ho_g0 := ho_g0n
  clear ho_g0n
  have hc4 := cntB_few (show fewB ((pb d0).1) from (few_pb d0))
  go_wp2_with fail
  refine Calls.mono (heldBundle_k v_g0 ((pb d0).1) _ _ (by omega) (by omega) (few_pb d0) ?_ _) ?_
  · exact (ho_g0.rd.below (by repeat (first | with_reducible exact Below.refl _ _ | with_reducible refine bAlloc ?_ _)))
  rintro e w5 ⟨rfl, hb5⟩
  have hk5 : Below w4.heap.size w4 w5 := bTrans (by repeat (first | with_reducible exact Below.refl _ _ | with_reducible refine bAlloc ?_ _)) hb5
  have hs5 := hk5.size
  have hz5 := hb5.size
  (try simp at hz5)
  have kb5_w0 := bBox hk5 (w1.heap.size) (by omega)
  have kb5_g0 := bBox hk5 (w2.heap.size) (by omega)
  have hlt5_w0 : w1.heap.size < w5.heap.size := by omega
  have hlt5_g0 : w2.heap.size < w5.heap.size := by omega
  have ho_w0 := ho_w0.below hk5
  have ho_g0 := ho_g0.below hk5
  have H := bTrans H hk5
  go_wp2_with fail
  refine Calls.mono (impl_ParseBundle_k d0 _ hlong0 ?_) ?_
  · exact HT.out.below (by repeat (first | with_reducible exact H | with_reducible refine bAlloc ?_ _))
  rintro e w6 ⟨v_h0, rfl, ho_h0, hf_h0, hb6⟩
  have hk6 : Below w5.heap.size w5 w6 := bTrans (by repeat (first | with_reducible exact Below.refl _ _ | with_reducible refine bAlloc ?_ _)) hb6
  have hs6 := hk6.size
  have hz6 := hb6.size
  (try simp at hz6)
  have kb6_w0 := bBox hk6 (w1.heap.size) (by omega)
  have kb6_g0 := bBox hk6 (w2.heap.size) (by omega)
  have hlt6_w0 : w1.heap.size < w6.heap.size := by omega
  have hlt6_g0 : w2.heap.size < w6.heap.size := by omega
  have ho_w0 := ho_w0.below hk6
  have ho_g0 := ho_g0.below hk6
  have H := bTrans H hk6
  have hlo_h0 : Hid (∀ q ∈ fpB v_h0, w5.heap.size ≤ q) := fun q hq => by have h1 := hf_h0.lo q hq; (try simp at h1); omega
  have hhi_h0 : Hid (∀ q ∈ fpB v_h0, q < w6.heap.size) := hf_h0.hi
  go_wp2_with fail
  refine Calls.mono (eqBundle_k v_h0 v_w0 ((pb d0).1) _ (few_pb d0) ?_ ?_) ?_
  · exact (ho_h0.rd.below (by repeat (first | with_reducible exact Below.refl _ _ | with_reducible refine bAlloc ?_ _)))
  · exact (ho_w0.rd.below (by repeat (first | with_reducible exact Below.refl _ _ | with_reducible refine bAlloc ?_ _)))
  rintro e w7 ⟨rfl, hb7⟩
  have hk7 : Below w6.heap.size w6 w7 := bTrans (by repeat (first | with_reducible exact Below.refl _ _ | with_reducible refine bAlloc ?_ _)) hb7
  have hs7 := hk7.size
  have hz7 := hb7.size
  (try simp at hz7)
  have kb7_w0 := bBox hk7 (w1.heap.size) (by omega)
  have kb7_g0 := bBox hk7 (w2.heap.size) (by omega)
  have kb7_h0 := bBox hb7 (w6.heap.size) (by first | omega | (simp; done) | (simp; omega))
  have hlt7_w0 : w1.heap.size < w7.heap.size := by omega
  have hlt7_g0 : w2.heap.size < w7.heap.size := by omega
  have hlt7_h0 : w6.heap.size < w7.heap.size := by omega
  have ho_w0 := ho_w0.below hk7
  have ho_g0 := ho_g0.below hk7
  have ho_h0 := ho_h0.below hk7
  have H := bTrans H hk7
  go_wp2_with fail
  refine Calls.mono (heldBundle_k v_g0 ((pb d0).1) _ _ (by omega) (by omega) (few_pb d0) ?_ _) ?_
  · exact (ho_g0.rd.below (by repeat (first | with_reducible exact Below.refl _ _ | with_reducible refine bAlloc ?_ _)))
  rintro e w8 ⟨rfl, hb8⟩
  have hk8 : Below w7.heap.size w7 w8 := bTrans (by repeat (first | with_reducible exact Below.refl _ _ | with_reducible refine bAlloc ?_ _)) hb8
  have hs8 := hk8.size
  have hz8 := hb8.size
  (try simp at hz8)
  have kb8_w0 := bBox hk8 (w1.heap.size) (by omega)
  have kb8_g0 := bBox hk8 (w2.heap.size) (by omega)
  have kb8_h0 := bBox hk8 (w6.heap.size) (by omega)
  have hlt8_w0 : w1.heap.size < w8.heap.size := by omega
  have hlt8_g0 : w2.heap.size < w8.heap.size := by omega
  have hlt8_h0 : w6.heap.size < w8.heap.size := by omega
  have ho_w0 := ho_w0.below hk8
  have ho_g0 := ho_g0.below hk8
  have ho_h0 := ho_h0.below hk8
  have H := bTrans H hk8
  go_wp2_with fail
  go_ret
  exact ⟨rfl, H⟩
end Go.Proofs.YtebcdjpddoaajaaDoor
