/- Texts of this proof, one behind the other: PsBunK, WBundles. -/
import Derived.Test.YtebcdjpddoaajaaDoorGs21
import Derived.Test.YtebcdjpddoaajaaDoorGs33
import Derived.Test.YtebcdjpddoaajaaDoorGs34
import Derived.Test.YtebcdjpddoaajaaDoorGs35
import Derived.Test.YtebcdjpddoaajaaDoorGs37
/- ParseBundle, as the exact laws ask for it. -/
namespace Go.Proofs.YtebcdjpddoaajaaDoor
open Go.RowKit
set_option linter.unusedVariables false
set_option linter.unusedSimpArgs false
noncomputable def pb (s : ByteArray) : Bundle × Bool := match psBun s with | some b => (b, true) | none => (⟨0, []⟩, false)
theorem few_pb (s : ByteArray) : fewB (pb s).1 := by
  unfold pb
  cases h : psBun s with
  | none => show ([] : List Factor).length ≤ 1048576; simp
  | some b =>
    have := (isBundle_parts (psBun_text h).1).2.2.1
    show b.factors.length ≤ 1048576
    omega
theorem pb_post {w w' : World} {s : ByteArray} {e : Ending} (h : PBPost w s e w') : ∃ v : Sv, e = .returned (.tuple #[vBundle (pb s).1.robot v.A v.n v.c, .bool (pb s).2]) ∧ OwB w' v (pb s).1 ∧ Fresh w.heap.size w' (fpB v) ∧ Below w.heap.size w w' := by
  obtain ⟨hb, ⟨b, v, h1, rfl, h3, h4⟩ | ⟨h1, rfl⟩⟩ := h
  · unfold pb; rw [h1]
    exact ⟨v, rfl, h3, h4, hb⟩
  · unfold pb; rw [h1]
    exact ⟨⟨none, 0, 0⟩, rfl, Own.nil_ _ _ _ _, Fresh.nil _ _, hb⟩
theorem spec_ParseBundle_k (s : ByteArray) (w : World) (hs : s.size ≤ 1048576) : Calls Tryd.prog 32 #[.string s] w fun e w' => ∃ v : Sv, e = .returned (.tuple #[vBundle (pb s).1.robot v.A v.n v.c, .bool (pb s).2]) ∧ OwB w' v (pb s).1 ∧ Fresh w.heap.size w' (fpB v) ∧ Below w.heap.size w w' :=
  (spec_ParseBundle_c s w hs).mono fun _ _ h => pb_post h
theorem impl_ParseBundle_k (s : ByteArray) (w : World) (hs : s.size ≤ 1048576) (hT : TabE w) : Calls Tryd.prog 23 #[.string s] w fun e w' => ∃ v : Sv, e = .returned (.tuple #[vBundle (pb s).1.robot v.A v.n v.c, .bool (pb s).2]) ∧ OwB w' v (pb s).1 ∧ Fresh w.heap.size w' (fpB v) ∧ Below w.heap.size w w' :=
  (impl_ParseBundle_c s w hs hT).mono fun _ _ h => pb_post h
end Go.Proofs.YtebcdjpddoaajaaDoor

/- The walk of the law FnBundles. -/
namespace Go.Proofs.YtebcdjpddoaajaaDoor
open Go.RowKit
set_option linter.unusedVariables false
set_option linter.unusedSimpArgs false
set_option maxHeartbeats 4000000
set_option maxRecDepth 100000
def upTo : Nat → List Factor → List Factor
  | 0, _ => []
  | r + 1, l => upTo r l ++ rob (r : Int) l
theorem upTo_pre (l : List Factor) (h : l.Pairwise (fun f g => f.id < g.id)) (hb : ∀ f ∈ l, 0 ≤ f.id ∧ f.id ≤ 2999) (r : Nat) (hr : r < 3) : ∃ R, l = (upTo r l ++ rob (r : Int) l) ++ R := by
  have e := rob_ids l h hb
  match r, hr with
  | 0, _ => exact ⟨rob 1 l ++ rob 2 l, by rw [← List.append_assoc]; exact e.symm⟩
  | 1, _ => exact ⟨rob 2 l, e.symm⟩
  | 2, _ => exact ⟨[], by rw [List.append_nil]; exact e.symm⟩
theorem upTo_all {l : List Factor} (h : rob 0 l ++ rob 1 l ++ rob 2 l = l) : upTo 3 l = l := h
theorem upTo_succ (r : Nat) (l : List Factor) : upTo (r + 1) l = upTo r l ++ rob (r : Int) l := rfl
theorem flat_snoc {bs : List Bundle} {i : Nat} {b : Bundle} (h : bs[i]? = some b) : (bs.take (i + 1)).flatMap (·.factors) = (bs.take i).flatMap (·.factors) ++ b.factors := by
  obtain ⟨hi, he⟩ := List.getElem?_eq_some_iff.1 h
  rw [List.take_succ_eq_append_getElem hi, List.flatMap_append, he]; simp
theorem flat_pre (bs : List Bundle) (i : Nat) : ∃ R, bs.flatMap (·.factors) = (bs.take i).flatMap (·.factors) ++ R :=
  ⟨(bs.drop i).flatMap (·.factors), by rw [← List.flatMap_append, List.take_append_drop]⟩
theorem mergeB_pre {P fs : List Factor} {r : Int} (h : isFL (P ++ fs) = true) (hb : isBundle r fs = true) : mergeB P r fs = (P ++ fs, fs) := by
  unfold mergeB
  rw [fl_left h, hb, if_pos (by rfl), merge_pre fs P [] h]; rfl
theorem facsL_sz : ∀ l : List Factor, (∀ f ∈ l, vldFactor f = true) → (facsL l).length ≤ 117 * l.length
  | [], _ => by simp [facsL]
  | f :: l, h => by
    have ih := facsL_sz l fun g hg => h g (by simp [hg])
    have h1 := fmtFac_size f
    have h2 : (fmtFac f).data.toList.length = (fmtFac f).size := by simp
    rw [fmtFac_data (h f (by simp))] at h2
    simp only [facsL, List.length_cons, List.length_append]
    omega
theorem bunT_sz {r : Int} {fs : List Factor} (h : isBundle r fs = true) : (bunT r fs).size ≤ 600 := by
  obtain ⟨h0, h2, h4, hv⟩ := isBundle_parts h
  have h1 := facsL_sz fs hv
  have h3 := Lib.itoa_length_le r (by omega) (by omega)
  have e : (bunT r fs).data.toList.length = (bunT r fs).size := by simp
  rw [bun_data] at e
  simp only [List.length_append, bunL0, List.length_cons, List.length_nil] at e
  omega
theorem w_FnBundles (W : World) (A : Option Addr) (n c : Nat) (hm : n ≤ maxLen) (hy : Bytes W A n) (hT : TabE W) :
    Calls Tryd.prog 4 #[.slice A n c] W fun e w' => e = rBool true ∧ Below W.heap.size W w' := by
  by_cases hn : n ≤ 1048576
  rotate_left
  · have hn' : (1048576 : Int) < (n : Int) := by omega
    go_enter Tryd.func4, Tryd.ntmps4
    go_wp2
    go_ret
    exact ⟨rfl, Below.refl _ _⟩
  have hn' : decide ((1048576 : Int) < (n : Int)) = false := by simp; omega
  have hy' := Lib.hid hy
  have HT := Lib.hid hT
  clear hy hm hT
  go_enter Tryd.func4, Tryd.ntmps4
  go_wp2_with fail
  refine Calls.mono (MakeShared_c (W := W) (c := c) (Below.refl _ _) hy'.out hn) ?_
  rintro e w1 ⟨v, l, rfl, hfl, hpos, hids, ho, hf, hb1⟩
  have hpw := asc_pw l none (fl_asc hfl)
  have hbd : ∀ f ∈ l, 0 ≤ f.id ∧ f.id ≤ 2999 := fun f hf => ⟨(inR_iff.1 (vld_parts (isFL_vld hfl f hf)).1).1, hids f hf⟩
  have hall := rob_ids l hpw hbd
  have FL := Lib.hid hfl
  have HPRE := Lib.hid (fun r hr => upTo_pre l hpw hbd r hr)
  have HALL := Lib.hid (upTo_all hall)
  have HRD := Lib.hid ho.rd
  have LEN : Hid (l.length = v.n) := ho.rd.len
  have hl40 := isFL_len hfl
  clear hfl hids hpw hbd hall ho hf
  obtain ⟨A0, n0, c0⟩ := v
  dsimp only at LEN HRD
  have hz1 := hb1.size
  have hl0 : Own (w1.alloc (.cells #[] 28)) w1.heap.size 28 8 (some ⟨w1.heap.size, 0, none⟩) 0 0 [] := Own.made0 w1 _ 8 (Nat.le_refl _)
  go_wp2_with fail
  go_loopw [4, 5] (fun ov rv wr => ∃ (r : Nat) (v : Sv), r ≤ 3 ∧ rv = .int .i64 (r : Int) ∧ ov = .slice v.A v.n v.c ∧ OwF wr v (upTo r l) ∧ Below w1.heap.size w1 wr) (fun _ rv _ => 3 - (intOf rv).toNat)
  case atStart => exact ⟨0, ⟨some ⟨w1.heap.size, 0, none⟩, 0, 0⟩, by omega, rfl, rfl, hl0.zero, bAlloc (Below.refl _ _) _⟩
  case round =>
    obtain ⟨r, v, hr, rfl, rfl, ho, hbr⟩ := hrel
    have HO := Lib.hid ho
    have HB := Lib.hid (bTrans hb1 hbr)
    clear ho hl0
    by_cases hlt : r < 3
    · have hrI : (r : Int) < 3 := by omega
      obtain ⟨R, hR⟩ := HPRE.out r hlt
      obtain ⟨q1, q2⟩ := bdl_ok (r := (r : Int)) FL.out (by omega) (by omega)
      have HR := Lib.hid hR; have HQ1 := Lib.hid q1; have HQ2 := Lib.hid q2
      clear hR q1 q2
      go_wp2_with fail
      refine Calls.mono (impl_BundlesOf_k ⟨A0, n0, c0⟩ l (r : Int) _ (isFL_bulk FL.out) (isFL_ok FL.out) (Row.below HRD.out hbr) (wfs (by omega) (by omega))) ?_
      rintro e w2 ⟨vb, rfl, hob, hfb, hb2⟩
      have hob0 := hob.rd
      generalize hbs : bundlesOf l (r : Int) = bs at hob0 HQ1 HQ2
      have HBS := Lib.hid hob0
      have hlb : bs.length = vb.n := hob0.len
      have hnb : (vb.n : Int) ≤ 9223372036854775807 := by obtain ⟨_, _, h1, _⟩ := hob; have := h1.nc; simp only [maxLen] at this; omega
      have hbr2 := bTrans hbr hb2
      have HO2 := Lib.hid (HO.out.below hb2)
      obtain ⟨Ab, nb, cb, fsb⟩ := vb
      simp only at hlb HBS hnb
      clear hob hob0 hfb hb2 HO
      go_wp2_with fail
      go_loopw [4, 24] (fun ov iv wr2 => ∃ (i : Nat) (v : Sv), i ≤ nb ∧ iv = .int .i64 (i : Int) ∧ ov = .slice v.A v.n v.c ∧ OwF wr2 v (upTo r l ++ (bs.take i).flatMap (·.factors)) ∧ Below w2.heap.size w2 wr2) (fun _ iv _ => nb - (intOf iv).toNat)
      case atStart => exact ⟨0, v, Nat.zero_le _, rfl, rfl, by simpa using HO2.out, Below.refl _ _⟩
      case round =>
        obtain ⟨i, v, hi, rfl, rfl, ho, hb3⟩ := hrel
        have HO3 := Lib.hid ho
        have hbr3 := bTrans hbr2 hb3
        have HB3 := Lib.hid (bTrans hb1 hbr3)
        clear ho HO2
        by_cases hltb : i < nb
        · obtain ⟨b, cs, g, off, hx, hA, ⟨vx, rfl, hrx, hlx⟩, hc⟩ := RdSl.at_ (R := RdBe) (RdSl.below (R := RdBe) RdBe.below HBS.out hb3) hltb
          subst hA
          obtain ⟨b1, b2⟩ := HQ2.out b (List.mem_of_getElem? hx.out)
          have hsn := flat_snoc hx.out
          obtain ⟨R2, hR2⟩ := flat_pre bs (i + 1)
          have g0 := hc 0 _ rfl; simp only [Nat.add_zero] at g0
          have g1 := hc 1 _ rfl
          obtain ⟨rb, fs⟩ := b
          dsimp only at b1 b2 hrx g0 g1 hsn
          subst b1
          obtain ⟨P, hP⟩ : ∃ P, P = upTo r l ++ (bs.take i).flatMap (·.factors) := ⟨_, rfl⟩
          have hPfl : isFL (P ++ fs) = true := by
            have e : l = (P ++ fs) ++ (R2 ++ R) := by
              have h1 := HR.out
              rw [← HQ1.out, hR2, hsn] at h1
              rw [hP]
              simpa [List.append_assoc] using h1
            have h2 := FL.out
            rw [e] at h2
            exact fl_left h2
          have hM := mergeB_pre hPfl b2
          have hnx : P ++ fs = upTo r l ++ (bs.take (i + 1)).flatMap (·.factors) := by rw [hsn, hP, List.append_assoc]
          have hPf := fl_left hPfl
          rw [← hP] at HO3
          have HNX := Lib.hid hnx; have HM := Lib.hid hM; have HPF := Lib.hid hPf; have HB2 := Lib.hid b2; have HRX := Lib.hid hrx
          have hpb : pb (fmtBun ⟨(r : Int), fs⟩) = (⟨(r : Int), fs⟩, true) := by
            have hp : psBun (fmtBun ⟨(r : Int), fs⟩) = some ⟨(r : Int), fs⟩ := psBun_some ⟨b2, (fmtBun_ne (b := ⟨(r : Int), fs⟩) b2).1.symm⟩
            unfold pb; rw [hp]
          have hfs := bunT_sz b2
          rw [← (fmtBun_ne (b := ⟨(r : Int), fs⟩) b2).1] at hfs
          obtain ⟨F, hF⟩ : ∃ F, F = fmtBun ⟨(r : Int), fs⟩ := ⟨_, rfl⟩
          rw [← hF] at hpb hfs
          have HPB := Lib.hid hpb; have HF := Lib.hid hF
          clear hx hsn hR2 hP hPfl hM hnx hPf b2 hrx hpb hF hc hlx
          have hal : Below wr.heap.size wr (wr.alloc (.cells #[.int .i64 (r : Int), .slice vx.A vx.n vx.c] 47)) := bAlloc (Below.refl _ _) _
          have HB4 := Lib.hid (bTrans HB3.out hal)
          go_wp2_with fail
          refine Calls.mono (impl_FormatBundle_k vx ⟨(r : Int), fs⟩ _ (isBundle_bulk HB2.out) ⟨isBundle_r HB2.out, isBundle_ok HB2.out⟩ (Row.below HRX.out hal) (HT.out.below HB4.out).tab) ?_
          rw [← HF.out]
          rintro e w4 ⟨rfl, hb4⟩
          have hal4 := bTrans hal hb4
          have HB5 := Lib.hid (bTrans HB4.out hb4)
          clear g0 g1
          go_wp2_with fail
          refine Calls.mono (impl_ParseBundle_k F _ (by omega) (HT.out.below HB5.out)) ?_
          rw [HPB.out]
          rintro e w5 ⟨vp, rfl, hop, hfp, hb5⟩
          have hal5 := bTrans hal4 hb5
          have hal6 := bAlloc hal5 (.cells #[.int .i64 (r : Int), .slice vp.A vp.n vp.c] 47)
          have HRP := Lib.hid (Row.below (OwF.rd hop) (bAlloc (Below.refl _ _) (.cells #[.int .i64 (r : Int), .slice vp.A vp.n vp.c] 47)))
          have HO6 := Lib.hid (HO3.out.below hal6)
          clear hop hfp hb4 hb5
          go_wp2_with fail
          refine Calls.mono (impl_MergeBundle_k v P vp ⟨(r : Int), fs⟩ _ (isFL_bulk HPF.out) (isFL_ok HPF.out) HO6.out.rd (isBundle_bulk HB2.out) ⟨isBundle_r HB2.out, isBundle_ok HB2.out⟩ HRP.out) ?_
          rw [HM.out]
          rintro e w7 ⟨v7, rfl, ho7, hf7, hb7⟩
          have hal7 := bTrans hal6 hb7
          go_wp2_with fail
          exact ⟨⟨i + 1, v7, by omega, by simp, rfl, by rw [← HNX.out]; exact ho7, bTrans hb3 hal7⟩, by simp only [intOf]; omega⟩
        · obtain rfl : i = nb := by omega
          have hkk : ¬ (i : Int) < (i : Int) := by omega
          have hte : upTo r l ++ (bs.take i).flatMap (·.factors) = upTo (r + 1) l := by
            rw [List.take_of_length_le (by omega), HQ1.out, upTo_succ]
          rw [hte] at HO3
          go_wp2_with fail
          exact ⟨⟨r + 1, v, by omega, by simp, rfl, HO3.out, hbr3⟩, by simp only [intOf]; omega⟩
    · obtain rfl : r = 3 := by omega
      rw [HALL.out] at HO
      have LENv : Hid (l.length = v.n) := HO.out.rd.len
      have h1 : l.length = v.n := LENv.out
      have h2 : l.length = n0 := LEN.out
      have hnpos : (0 : Int) < (n0 : Int) := by omega
      have HRD2 := Lib.hid (Row.below HRD.out hbr)
      go_wp2_with fail
      refine Calls.mono (impl_SameFactors_c v.A A0 v.n n0 v.c c0 l l _ (by omega) (by omega) HO.out.rd HRD2.out) ?_
      rw [sameL_refl]
      rintro e w4 ⟨rfl, hb4⟩
      have HB4 := Lib.hid (bTrans HB.out hb4)
      have HO4 := Lib.hid (HO.out.below hb4)
      have HRD4 := Lib.hid (Row.below HRD2.out hb4)
      go_wp2_with fail
      refine Calls.mono (impl_ListDigest_k v l _ (isFL_bulk FL.out) (isFL_ok FL.out) HO4.out.rd (HT.out.below HB4.out).tab) ?_
      rintro e w5 ⟨rfl, hb5⟩
      have HB5 := Lib.hid (bTrans HB4.out hb5)
      have HRD5 := Lib.hid (Row.below HRD4.out hb5)
      go_wp2_with fail
      refine Calls.mono (impl_ListDigest_k ⟨A0, n0, c0⟩ l _ (isFL_bulk FL.out) (isFL_ok FL.out) HRD5.out (HT.out.below HB5.out).tab) ?_
      rintro e w6 ⟨rfl, hb6⟩
      have HB6 := Lib.hid (bTrans HB5.out hb6)
      go_wp2_with fail
      go_ret
      exact ⟨rfl, HB6.out⟩
end Go.Proofs.YtebcdjpddoaajaaDoor
