/- Texts of this proof, one behind the other: Rpl, RplS, WReplayJournal. -/
import Derived.Test.YtebcdjpddoaajaaGreatDoorGs33
import Derived.Test.YtebcdjpddoaajaaGreatDoorGs34
/- ReplayJournal: the entries applied one after another; the program's. -/
namespace Go.Proofs.YtebcdjpddoaajaaGreatDoor
open Go.RowKit
set_option linter.unusedVariables false
set_option linter.unusedSimpArgs false
set_option maxHeartbeats 4000000
set_option maxRecDepth 100000

def rstep (l : List Factor) (e : Entry) : List Factor := if e.remove then (removeF l e.id).1 else (addF l e.factor).1
/-- a list as the replay keeps it -/
def RpOk (l : List Factor) : Prop := (∀ f ∈ l, vldFactor f = true) ∧ l.length ≤ 40
theorem RpOk.nil : RpOk [] := ⟨by simp, by simp⟩
theorem RpOk.small {l : List Factor} (h : RpOk l) : smallFs l := fun f hf => vld_sz (h.1 f hf)
theorem RpOk.few {l : List Factor} (h : RpOk l) : fewF l := by have := h.2; unfold fewF; omega
theorem fl_rp {l : List Factor} (h : isFL l = true) : RpOk l := by
  refine ⟨?_, isFL_len h⟩
  unfold isFL at h
  simp only [Bool.and_eq_true] at h
  have ha := h.2.1
  revert ha
  have aux : ∀ (l : List Factor) (p : Option Int), ascL l p = true → ∀ f ∈ l, vldFactor f = true := by
    intro l
    induction l with
    | nil => intro p _ f hf; simp at hf
    | cons a l ih =>
      intro p h f hf
      simp only [ascL, Bool.and_eq_true] at h
      rcases List.mem_cons.1 hf with rfl | hf
      · exact h.1
      · exact ih _ h.2.2 f hf
  exact aux l none
theorem RpOk.step {l : List Factor} (h : RpOk l) (e : Entry) : RpOk (rstep l e) := by
  unfold rstep
  split
  · unfold removeF
    split
    · exact ⟨fun f hf => h.1 f (List.mem_filter.1 hf).1, Nat.le_trans (List.length_filter_le _ _) h.2⟩
    · exact h
  · unfold addF
    split
    · rename_i hc; simp only [Bool.and_eq_true] at hc; exact fl_rp hc.2
    · exact h
noncomputable def rpl (s : ByteArray) : List Factor := (rdE s).foldl rstep []
theorem rpok_fold : ∀ (es : List Entry) (l : List Factor), RpOk l → RpOk (es.foldl rstep l)
  | [], _, h => h
  | e :: es, l, h => rpok_fold es _ (h.step e)
theorem few_rpl (s : ByteArray) : fewF (rpl s) := (rpok_fold _ _ RpOk.nil).few
theorem rdj_vld : ∀ (k : Nat) (r : List UInt8) (p : Int), ∀ e ∈ (rdj k r p).1, vldEntry e = true
  | 0, _, _, e, he => by simp [rdj] at he
  | k + 1, r, p, e, he => by
    rw [rdj] at he
    split at he
    · simp at he
    · rename_i g hg
      rcases List.mem_cons.1 he with rfl | he
      · exact (nxt_text hg).1
      · exact rdj_vld k _ _ e he
theorem take_step {α β : Type} {f : β → α → β} {es : List α} {b : β} {k : Nat} {e : α} (h : es[k]? = some e) : (es.take (k + 1)).foldl f b = f ((es.take k).foldl f b) e := by
  obtain ⟨hi, he⟩ := List.getElem?_eq_some_iff.1 h
  rw [List.take_succ_eq_append_getElem hi, List.foldl_append, he]; rfl
theorem impl_ReplayJournal_k (s : ByteArray) (w : World) (hs : s.size ≤ 1048576) (hT : TabJ w) : Calls Tryz.prog 6 #[.string s] w fun e w' => ∃ v : Sv, e = .returned (.slice v.A v.n v.c) ∧ OwF w' v (rpl s) ∧ Fresh w.heap.size w' (fpF v) ∧ Below w.heap.size w w' := by
  go_enter Tryz.func6, Tryz.ntmps6
  go_wp2_with fail
  refine Calls.mono (impl_ReadJournal_k s _ hs (hT.below (bAlloc (Below.refl _ _) _))) ?_
  rintro e w1 ⟨ve, rfl, hoe, hfe, hb1⟩
  have hl0 : Own w1 w.heap.size 38 8 (some ⟨w.heap.size, 0, none⟩) 0 0 [] := (Own.made0 w _ 8 (Nat.le_refl _)).below hb1
  have HRE := Lib.hid hoe.rd
  have hlen : (rdE s).length = ve.n := by have := hoe.rd.1; simpa using this
  have hvn : ve.n ≤ 60 := by have := rdj_few 60 s.data.toList 1; rw [← hlen]; exact this
  have B1 : Below w.heap.size w w1 := bTrans (bAlloc (Below.refl _ _) _) hb1
  have HV := Lib.hid (rdj_vld 60 s.data.toList 1)
  obtain ⟨A0, n0, c0⟩ := ve
  simp only at hlen hvn HRE
  clear hoe hfe hb1
  go_wp2_with fail
  go_loopw [3, 16] (fun lv iv wr => ∃ (k : Nat) (v : Sv), k ≤ n0 ∧ iv = .int .i64 (k : Int) ∧ lv = .slice v.A v.n v.c ∧ OwF wr v (((rdE s).take k).foldl rstep []) ∧ Fresh w.heap.size wr (fpF v) ∧ Below w1.heap.size w1 wr) (fun _ iv _ => n0 - (intOf iv).toNat)
  case atStart => exact ⟨0, ⟨some ⟨w.heap.size, 0, none⟩, 0, 0⟩, Nat.zero_le _, rfl, rfl, hl0.zero, Fresh.obl_ hl0, Below.refl _ _⟩
  case round =>
    obtain ⟨k, v, hk, rfl, rfl, ho, hf, hbr⟩ := hrel
    have HB := Lib.hid (bTrans B1 hbr)
    have HO := Lib.hid ho
    have HF := Lib.hid hf
    have hzr := hbr.size
    have hz1 := B1.size
    clear ho hf
    by_cases hlt : k < n0
    · obtain ⟨⟨rm, eid, ⟨fi, fk, ff, ft, ⟨pt, px, py⟩, fw⟩⟩, g, off, hx, rfl, g0, g1, g2, g3, g4, g5, g6, g7, g8, g9⟩ := RowN.at_ (Row.below HRE.out hbr) hlt
      have hst := take_step (f := rstep) (b := []) hx.out
      have hrp := rpok_fold ((rdE s).take k) [] RpOk.nil
      have hve := HV.out _ (List.mem_of_getElem? hx.out)
      generalize ((rdE s).take k).foldl rstep [] = l at hst hrp HO
      have HST := Lib.hid hst
      have HRP := Lib.hid hrp
      have HVE := Lib.hid hve
      have SL := Own.slOk (v := v) HO.out
      have bx := Bk.new wr [.bool rm, .int .i64 eid, .int .i64 fi, .int .i64 fk, .string ff, .string ft, .int .i64 pt, .int .i64 px, .int .i64 py, .int .i64 fw] 46 _ rfl
      have BX := Lib.hid bx
      clear hst hrp hve hx bx
      dsimp only at g0 g1 g2 g3 g4 g5 g6 g7 g8 g9
      have hal : Below wr.heap.size wr (wr.alloc (.cells #[.bool rm, .int .i64 eid, .int .i64 fi, .int .i64 fk, .string ff, .string ft, .int .i64 pt, .int .i64 px, .int .i64 py, .int .i64 fw] 46)) := bAlloc (Below.refl _ _) _
      have HRD := Lib.hid ((HO.out.below hal).rd)
      cases rm with
      | true =>
        have HE := Lib.hid (show rstep l ⟨true, eid, ⟨fi, fk, ff, ft, ⟨pt, px, py⟩, fw⟩⟩ = (removeF l eid).1 from rfl)
        go_wp2_with fail
        refine Calls.mono (impl_RemoveFactor_k v l eid _ HRP.out.few HRP.out.small SL HRD.out) ?_
        rintro e w3 ⟨v3, rfl, ho3, hf3, hb3⟩
        have hb3' := bTrans hal hb3
        go_wp2_with fail
        exact ⟨⟨k + 1, v3, by omega, by simp, rfl, by rw [HST.out, HE.out]; exact ho3, hf3.rebase (by simp; omega), bTrans hbr hb3'⟩, by simp only [intOf]; omega⟩
      | false =>
        have HE := Lib.hid (show rstep l ⟨false, eid, ⟨fi, fk, ff, ft, ⟨pt, px, py⟩, fw⟩⟩ = (addF l ⟨fi, fk, ff, ft, ⟨pt, px, py⟩, fw⟩).1 from rfl)
        have hvf : vldFactor ⟨fi, fk, ff, ft, ⟨pt, px, py⟩, fw⟩ = true := by have := HVE.out; simp [vldEntry] at this; exact this.2
        have HSZ := Lib.hid (vld_sz hvf)
        clear hvf
        go_wp2_with fail
        refine Calls.mono (impl_AddFactor_k v l ⟨fi, fk, ff, ft, ⟨pt, px, py⟩, fw⟩ _ HRP.out.few HRP.out.small HSZ.out SL HRD.out) ?_
        rintro e w3 ⟨v3, rfl, ho3, hf3, hb3⟩
        have hb3' := bTrans hal hb3
        go_wp2_with fail
        exact ⟨⟨k + 1, v3, by omega, by simp, rfl, by rw [HST.out, HE.out]; exact ho3, hf3.rebase (by simp; omega), bTrans hbr hb3'⟩, by simp only [intOf]; omega⟩
    · obtain rfl : k = n0 := by omega
      have hkk : ¬ (k : Int) < (k : Int) := by omega
      have HT2 := Lib.hid (show ((rdE s).take k).foldl rstep [] = rpl s by rw [List.take_of_length_le (by omega)]; rfl)
      rw [HT2.out] at HO
      go_wp2_with fail
      refine bodyPost_ret (v := .slice v.A v.n v.c) (by simp [*, results, Tryz.results6, go_sem]) rfl ⟨v, rfl, HO.out, HF.out, HB.out⟩
end Go.Proofs.YtebcdjpddoaajaaGreatDoor

/- ReplayJournal of the reference. -/
namespace Go.Proofs.YtebcdjpddoaajaaGreatDoor
open Go.RowKit
set_option linter.unusedVariables false
set_option linter.unusedSimpArgs false
set_option maxHeartbeats 4000000
set_option maxRecDepth 100000
theorem spec_ReplayJournal_k (s : ByteArray) (w : World) (hs : s.size ≤ 1048576) : Calls Tryz.prog 5 #[.string s] w fun e w' => ∃ v : Sv, e = .returned (.slice v.A v.n v.c) ∧ OwF w' v (rpl s) ∧ Fresh w.heap.size w' (fpF v) ∧ Below w.heap.size w w' := by
  go_enter Tryz.func5, Tryz.ntmps5
  go_wp2_with fail
  refine Calls.mono (spec_ReadJournal_k s _ hs) ?_
  rintro e w1 ⟨ve, rfl, hoe, hfe, hb1⟩
  have hl0 : Own w1 w.heap.size 38 8 (some ⟨w.heap.size, 0, none⟩) 0 0 [] := (Own.made0 w _ 8 (Nat.le_refl _)).below hb1
  have HRE := Lib.hid hoe.rd
  have hlen : (rdE s).length = ve.n := by have := hoe.rd.1; simpa using this
  have hvn : ve.n ≤ 60 := by have := rdj_few 60 s.data.toList 1; rw [← hlen]; exact this
  have B1 : Below w.heap.size w w1 := bTrans (bAlloc (Below.refl _ _) _) hb1
  have HV := Lib.hid (rdj_vld 60 s.data.toList 1)
  obtain ⟨A0, n0, c0⟩ := ve
  simp only at hlen hvn HRE
  clear hoe hfe hb1
  go_wp2_with fail
  go_loopw [3, 16] (fun lv iv wr => ∃ (k : Nat) (v : Sv), k ≤ n0 ∧ iv = .int .i64 (k : Int) ∧ lv = .slice v.A v.n v.c ∧ OwF wr v (((rdE s).take k).foldl rstep []) ∧ Fresh w.heap.size wr (fpF v) ∧ Below w1.heap.size w1 wr) (fun _ iv _ => n0 - (intOf iv).toNat)
  case atStart => exact ⟨0, ⟨some ⟨w.heap.size, 0, none⟩, 0, 0⟩, Nat.zero_le _, rfl, rfl, hl0.zero, Fresh.obl_ hl0, Below.refl _ _⟩
  case round =>
    obtain ⟨k, v, hk, rfl, rfl, ho, hf, hbr⟩ := hrel
    have HB := Lib.hid (bTrans B1 hbr)
    have HO := Lib.hid ho
    have HF := Lib.hid hf
    have hzr := hbr.size
    have hz1 := B1.size
    clear ho hf
    by_cases hlt : k < n0
    · obtain ⟨⟨rm, eid, ⟨fi, fk, ff, ft, ⟨pt, px, py⟩, fw⟩⟩, g, off, hx, rfl, g0, g1, g2, g3, g4, g5, g6, g7, g8, g9⟩ := RowN.at_ (Row.below HRE.out hbr) hlt
      have hst := take_step (f := rstep) (b := []) hx.out
      have hrp := rpok_fold ((rdE s).take k) [] RpOk.nil
      have hve := HV.out _ (List.mem_of_getElem? hx.out)
      generalize ((rdE s).take k).foldl rstep [] = l at hst hrp HO
      have HST := Lib.hid hst
      have HRP := Lib.hid hrp
      have HVE := Lib.hid hve
      have SL := Own.slOk (v := v) HO.out
      have bx := Bk.new wr [.bool rm, .int .i64 eid, .int .i64 fi, .int .i64 fk, .string ff, .string ft, .int .i64 pt, .int .i64 px, .int .i64 py, .int .i64 fw] 46 _ rfl
      have BX := Lib.hid bx
      clear hst hrp hve hx bx
      dsimp only at g0 g1 g2 g3 g4 g5 g6 g7 g8 g9
      have hal : Below wr.heap.size wr (wr.alloc (.cells #[.bool rm, .int .i64 eid, .int .i64 fi, .int .i64 fk, .string ff, .string ft, .int .i64 pt, .int .i64 px, .int .i64 py, .int .i64 fw] 46)) := bAlloc (Below.refl _ _) _
      have HRD := Lib.hid ((HO.out.below hal).rd)
      cases rm with
      | true =>
        have HE := Lib.hid (show rstep l ⟨true, eid, ⟨fi, fk, ff, ft, ⟨pt, px, py⟩, fw⟩⟩ = (removeF l eid).1 from rfl)
        go_wp2_with fail
        refine Calls.mono (spec_RemoveFactor_k v l eid _ HRP.out.few HRP.out.small HRD.out) ?_
        rintro e w3 ⟨v3, rfl, ho3, hf3, hb3⟩
        have hb3' := bTrans hal hb3
        go_wp2_with fail
        exact ⟨⟨k + 1, v3, by omega, by simp, rfl, by rw [HST.out, HE.out]; exact ho3, hf3.rebase (by simp; omega), bTrans hbr hb3'⟩, by simp only [intOf]; omega⟩
      | false =>
        have HE := Lib.hid (show rstep l ⟨false, eid, ⟨fi, fk, ff, ft, ⟨pt, px, py⟩, fw⟩⟩ = (addF l ⟨fi, fk, ff, ft, ⟨pt, px, py⟩, fw⟩).1 from rfl)
        have hvf : vldFactor ⟨fi, fk, ff, ft, ⟨pt, px, py⟩, fw⟩ = true := by have := HVE.out; simp [vldEntry] at this; exact this.2
        have HSZ := Lib.hid (vld_sz hvf)
        clear hvf
        go_wp2_with fail
        refine Calls.mono (spec_AddFactor_k v l ⟨fi, fk, ff, ft, ⟨pt, px, py⟩, fw⟩ _ HRP.out.few HRP.out.small HSZ.out SL HRD.out) ?_
        rintro e w3 ⟨v3, rfl, ho3, hf3, hb3⟩
        have hb3' := bTrans hal hb3
        go_wp2_with fail
        exact ⟨⟨k + 1, v3, by omega, by simp, rfl, by rw [HST.out, HE.out]; exact ho3, hf3.rebase (by simp; omega), bTrans hbr hb3'⟩, by simp only [intOf]; omega⟩
    · obtain rfl : k = n0 := by omega
      have hkk : ¬ (k : Int) < (k : Int) := by omega
      have HT2 := Lib.hid (show ((rdE s).take k).foldl rstep [] = rpl s by rw [List.take_of_length_le (by omega)]; rfl)
      rw [HT2.out] at HO
      go_wp2_with fail
      refine bodyPost_ret (v := .slice v.A v.n v.c) (by simp [*, results, Tryz.results5, go_sem]) rfl ⟨v, rfl, HO.out, HF.out, HB.out⟩
end Go.Proofs.YtebcdjpddoaajaaGreatDoor

/- The walk of the law FnExactReplayJournal. -/
namespace Go.Proofs.YtebcdjpddoaajaaGreatDoor
open Go.RowKit
set_option linter.unusedVariables false
set_option linter.unusedSimpArgs false
set_option maxHeartbeats 1600000
set_option maxRecDepth 100000
theorem w_FnExactReplayJournal (W : World) (d0 : ByteArray) (wf0 : d0.size ≤ maxLen) (hT : TabJ W) :
    Calls Tryz.prog 3 #[.string d0] W fun e w' => e = rBool true ∧ Below W.heap.size W w' := by
  have HT := Lib.hid hT
  clear hT
  go_enter Tryz.func3, Tryz.ntmps3
  by_cases hlong0 : d0.size ≤ 1048576
  rotate_left
  · go_wp2_with fail
    go_ret
    exact ⟨rfl, by repeat (first | exact Below.refl _ _ | refine bAlloc ?_ _)⟩
  go_wp2_with fail
  refine Calls.mono (spec_ReplayJournal_k d0 _ hlong0) ?_
  rintro e w1 ⟨v_w0, rfl, ho_w0, hf_w0, hb1⟩
  have hk1 : Below W.heap.size W w1 := bTrans (by repeat (first | with_reducible exact Below.refl _ _ | with_reducible refine bAlloc ?_ _)) hb1
  have hs1 := hk1.size
  have hz1 := hb1.size
  (try simp at hz1)
  have H := bTrans (Below.refl _ W) hk1
  have hlo_w0 : Hid (∀ q ∈ fpF v_w0, W.heap.size ≤ q) := fun q hq => by have h1 := hf_w0.lo q hq; (try simp at h1); omega
  have hhi_w0 : Hid (∀ q ∈ fpF v_w0, q < w1.heap.size) := hf_w0.hi
  go_wp2_with fail
  refine Calls.mono (impl_ReplayJournal_k d0 _ hlong0 ?_) ?_
  · exact HT.out.below (by repeat (first | with_reducible exact H | with_reducible refine bAlloc ?_ _))
  rintro e w2 ⟨v_g0, rfl, ho_g0, hf_g0, hb2⟩
  have hk2 : Below w1.heap.size w1 w2 := bTrans (by repeat (first | with_reducible exact Below.refl _ _ | with_reducible refine bAlloc ?_ _)) hb2
  have hs2 := hk2.size
  have hz2 := hb2.size
  (try simp at hz2)
  have ho_w0 := ho_w0.below hk2
  have H := bTrans H hk2
  have hlo_g0 : Hid (∀ q ∈ fpF v_g0, w1.heap.size ≤ q) := fun q hq => by have h1 := hf_g0.lo q hq; (try simp at h1); omega
  have hhi_g0 : Hid (∀ q ∈ fpF v_g0, q < w2.heap.size) := hf_g0.hi
  go_wp2_with fail
  refine Calls.mono (eqFactorS_k v_g0 v_w0 ((rpl d0)) _ (few_rpl d0) ?_ ?_) ?_
  · exact (ho_g0.rd.below (by repeat (first | with_reducible exact Below.refl _ _ | with_reducible refine bAlloc ?_ _)))
  · exact (ho_w0.rd.below (by repeat (first | with_reducible exact Below.refl _ _ | with_reducible refine bAlloc ?_ _)))
  rintro e w3 ⟨rfl, hb3⟩
  have hk3 : Below w2.heap.size w2 w3 := bTrans (by repeat (first | with_reducible exact Below.refl _ _ | with_reducible refine bAlloc ?_ _)) hb3
  have hs3 := hk3.size
  have hz3 := hb3.size
  (try simp at hz3)
  have ho_w0 := ho_w0.below hk3
  have ho_g0 := ho_g0.below hk3
  have H := bTrans H hk3
  go_wp2_with fail
  refine Calls.mono (markFactorS_k v_g0 ((rpl d0)) _ _ (by omega) (by omega) (few_rpl d0) ?_ hf_g0.nodup) ?_
  · exact (ho_g0.below (by repeat (first | with_reducible exact Below.refl _ _ | with_reducible refine bAlloc ?_ _)))
  rintro e w4 ⟨rfl, ho_g0n, hu4⟩
  have hv4 : Upd (fpF v_g0) w3 w4 := (Upd.of_below (by repeat (first | with_reducible exact Below.refl _ _ | with_reducible refine bAlloc ?_ _))).trans hu4
  have hs4 := hv4.size
  have hz4 := hu4.size
  (try simp at hz4)
  have ho_w0 := ho_w0.upd hv4 (fun q hq hm => by have h1 := hlo_w0.out q hq; have h2 := hhi_w0.out q hq; have h3 := hlo_g0.out q hm; have h4 := hhi_g0.out q hm; omega)
  have H := bUpd H hv4 (fun q hq => by have h1 := hlo_g0.out q hq; omega)
  have ho_g0 := ho_g0n
  clear ho_g0n
  have hc4 := cntF_few (show fewF ((rpl d0)) from (few_rpl d0))
  go_wp2_with fail
  refine Calls.mono (heldFactorS_k v_g0 ((rpl d0)) _ _ (by omega) (by omega) (few_rpl d0) ?_) ?_
  · exact (ho_g0.rd.below (by repeat (first | with_reducible exact Below.refl _ _ | with_reducible refine bAlloc ?_ _)))
  rintro e w5 ⟨rfl, hb5⟩
  have hk5 : Below w4.heap.size w4 w5 := bTrans (by repeat (first | with_reducible exact Below.refl _ _ | with_reducible refine bAlloc ?_ _)) hb5
  have hs5 := hk5.size
  have hz5 := hb5.size
  (try simp at hz5)
  have ho_w0 := ho_w0.below hk5
  have ho_g0 := ho_g0.below hk5
  have H := bTrans H hk5
  go_wp2_with fail
  refine Calls.mono (impl_ReplayJournal_k d0 _ hlong0 ?_) ?_
  · exact HT.out.below (by repeat (first | with_reducible exact H | with_reducible refine bAlloc ?_ _))
  rintro e w6 ⟨v_h0, rfl, ho_h0, hf_h0, hb6⟩
  have hk6 : Below w5.heap.size w5 w6 := bTrans (by repeat (first | with_reducible exact Below.refl _ _ | with_reducible refine bAlloc ?_ _)) hb6
  have hs6 := hk6.size
  have hz6 := hb6.size
  (try simp at hz6)
  have ho_w0 := ho_w0.below hk6
  have ho_g0 := ho_g0.below hk6
  have H := bTrans H hk6
  have hlo_h0 : Hid (∀ q ∈ fpF v_h0, w5.heap.size ≤ q) := fun q hq => by have h1 := hf_h0.lo q hq; (try simp at h1); omega
  have hhi_h0 : Hid (∀ q ∈ fpF v_h0, q < w6.heap.size) := hf_h0.hi
  go_wp2_with fail
  refine Calls.mono (eqFactorS_k v_h0 v_w0 ((rpl d0)) _ (few_rpl d0) ?_ ?_) ?_
  · exact (ho_h0.rd.below (by repeat (first | with_reducible exact Below.refl _ _ | with_reducible refine bAlloc ?_ _)))
  · exact (ho_w0.rd.below (by repeat (first | with_reducible exact Below.refl _ _ | with_reducible refine bAlloc ?_ _)))
  rintro e w7 ⟨rfl, hb7⟩
  have hk7 : Below w6.heap.size w6 w7 := bTrans (by repeat (first | with_reducible exact Below.refl _ _ | with_reducible refine bAlloc ?_ _)) hb7
  have hs7 := hk7.size
  have hz7 := hb7.size
  (try simp at hz7)
  have ho_w0 := ho_w0.below hk7
  have ho_g0 := ho_g0.below hk7
  have ho_h0 := ho_h0.below hk7
  have H := bTrans H hk7
  go_wp2_with fail
  refine Calls.mono (heldFactorS_k v_g0 ((rpl d0)) _ _ (by omega) (by omega) (few_rpl d0) ?_) ?_
  · exact (ho_g0.rd.below (by repeat (first | with_reducible exact Below.refl _ _ | with_reducible refine bAlloc ?_ _)))
  rintro e w8 ⟨rfl, hb8⟩
  have hk8 : Below w7.heap.size w7 w8 := bTrans (by repeat (first | with_reducible exact Below.refl _ _ | with_reducible refine bAlloc ?_ _)) hb8
  have hs8 := hk8.size
  have hz8 := hb8.size
  (try simp at hz8)
  have ho_w0 := ho_w0.below hk8
  have ho_g0 := ho_g0.below hk8
  have ho_h0 := ho_h0.below hk8
  have H := bTrans H hk8
  go_wp2_with fail
  go_ret
  exact ⟨rfl, H⟩
end Go.Proofs.YtebcdjpddoaajaaGreatDoor
