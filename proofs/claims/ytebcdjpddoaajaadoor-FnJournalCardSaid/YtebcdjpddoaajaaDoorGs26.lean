/- Texts of this proof, one behind the other: Rpl, RpP, Push, Draw2. -/
import Derived.Deep.RegionHeld3
import Derived.Deep.RegionLaw
import Derived.BigRegion
import Derived.Test.YtebcdjpddoaajaaDoorGs3
import Derived.Test.YtebcdjpddoaajaaDoorGs5
import Derived.Test.YtebcdjpddoaajaaDoorGs6
import Derived.Test.YtebcdjpddoaajaaDoorGs9
import Derived.Test.YtebcdjpddoaajaaDoorGs10
import Derived.Test.YtebcdjpddoaajaaDoorGs11
import Derived.Test.YtebcdjpddoaajaaDoorGs18
import Derived.Test.YtebcdjpddoaajaaDoorGs19
import Derived.Test.YtebcdjpddoaajaaDoorGs23
import Derived.Test.YtebcdjpddoaajaaDoorGs25
import Derived.Test.YtebcdjpddoaajaaDoorGs27
/- ReplayJournal: the entries applied one after another; the program's. -/
namespace Go.Proofs.YtebcdjpddoaajaaDoor
open Go.RowKit
set_option linter.unusedVariables false
set_option linter.unusedSimpArgs false
set_option maxHeartbeats 4000000
set_option maxRecDepth 100000

def rstep (l : List Factor) (e : Entry) : List Factor := if e.remove then (removeF l e.id).1 else (addF l e.factor).1
/-- a list as the replay keeps it -/
def RpOk (l : List Factor) : Prop := (∀ f ∈ l, vldFactor f = true) ∧ l.length ≤ 40
theorem RpOk.nil : RpOk [] := ⟨by simp, by simp⟩
theorem RpOk.small {l : List Factor} (h : RpOk l) : smallFs l := fun f hf => vld_sz (h.1 f hf)
theorem RpOk.few {l : List Factor} (h : RpOk l) : fewF l := by have := h.2; unfold fewF; omega
theorem fl_rp {l : List Factor} (h : isFL l = true) : RpOk l := by
  refine ⟨?_, isFL_len h⟩
  unfold isFL at h
  simp only [Bool.and_eq_true] at h
  have ha := h.2.1
  revert ha
  have aux : ∀ (l : List Factor) (p : Option Int), ascL l p = true → ∀ f ∈ l, vldFactor f = true := by
    intro l
    induction l with
    | nil => intro p _ f hf; simp at hf
    | cons a l ih =>
      intro p h f hf
      simp only [ascL, Bool.and_eq_true] at h
      rcases List.mem_cons.1 hf with rfl | hf
      · exact h.1
      · exact ih _ h.2.2 f hf
  exact aux l none
theorem RpOk.step {l : List Factor} (h : RpOk l) (e : Entry) : RpOk (rstep l e) := by
  unfold rstep
  split
  · unfold removeF
    split
    · exact ⟨fun f hf => h.1 f (List.mem_filter.1 hf).1, Nat.le_trans (List.length_filter_le _ _) h.2⟩
    · exact h
  · unfold addF
    split
    · rename_i hc; simp only [Bool.and_eq_true] at hc; exact fl_rp hc.2
    · exact h
noncomputable def rpl (s : ByteArray) : List Factor := (rdE s).foldl rstep []
theorem rpok_fold : ∀ (es : List Entry) (l : List Factor), RpOk l → RpOk (es.foldl rstep l)
  | [], _, h => h
  | e :: es, l, h => rpok_fold es _ (h.step e)
theorem few_rpl (s : ByteArray) : fewF (rpl s) := (rpok_fold _ _ RpOk.nil).few
theorem rdj_vld : ∀ (k : Nat) (r : List UInt8) (p : Int), ∀ e ∈ (rdj k r p).1, vldEntry e = true
  | 0, _, _, e, he => by simp [rdj] at he
  | k + 1, r, p, e, he => by
    rw [rdj] at he
    split at he
    · simp at he
    · rename_i g hg
      rcases List.mem_cons.1 he with rfl | he
      · exact (nxt_text hg).1
      · exact rdj_vld k _ _ e he
theorem take_step {α β : Type} {f : β → α → β} {es : List α} {b : β} {k : Nat} {e : α} (h : es[k]? = some e) : (es.take (k + 1)).foldl f b = f ((es.take k).foldl f b) e := by
  obtain ⟨hi, he⟩ := List.getElem?_eq_some_iff.1 h
  rw [List.take_succ_eq_append_getElem hi, List.foldl_append, he]; rfl
theorem impl_ReplayJournal_k (s : ByteArray) (w : World) (hs : s.size ≤ 1048576) (hT : TabJ w) : Calls Tryd.prog 37 #[.string s] w fun e w' => ∃ v : Sv, e = .returned (.slice v.A v.n v.c) ∧ OwF w' v (rpl s) ∧ Fresh w.heap.size w' (fpF v) ∧ Below w.heap.size w w' := by
  go_enter Tryd.func37, Tryd.ntmps37
  go_wp2_with fail
  refine Calls.mono (impl_ReadJournal_k s _ hs (hT.below (bAlloc (Below.refl _ _) _))) ?_
  rintro e w1 ⟨ve, rfl, hoe, hfe, hb1⟩
  have hl0 : Own w1 w.heap.size 28 8 (some ⟨w.heap.size, 0, none⟩) 0 0 [] := (Own.made0 w _ 8 (Nat.le_refl _)).below hb1
  have HRE := Lib.hid hoe.rd
  have hlen : (rdE s).length = ve.n := by have := hoe.rd.1; simpa using this
  have hvn : ve.n ≤ 60 := by have := rdj_few 60 s.data.toList 1; rw [← hlen]; exact this
  have B1 : Below w.heap.size w w1 := bTrans (bAlloc (Below.refl _ _) _) hb1
  have HV := Lib.hid (rdj_vld 60 s.data.toList 1)
  obtain ⟨A0, n0, c0⟩ := ve
  simp only at hlen hvn HRE
  clear hoe hfe hb1
  go_wp2_with fail
  go_loopw [3, 16] (fun lv iv wr => ∃ (k : Nat) (v : Sv), k ≤ n0 ∧ iv = .int .i64 (k : Int) ∧ lv = .slice v.A v.n v.c ∧ OwF wr v (((rdE s).take k).foldl rstep []) ∧ Fresh w.heap.size wr (fpF v) ∧ Below w1.heap.size w1 wr) (fun _ iv _ => n0 - (intOf iv).toNat)
  case atStart => exact ⟨0, ⟨some ⟨w.heap.size, 0, none⟩, 0, 0⟩, Nat.zero_le _, rfl, rfl, hl0.zero, Fresh.obl_ hl0, Below.refl _ _⟩
  case round =>
    obtain ⟨k, v, hk, rfl, rfl, ho, hf, hbr⟩ := hrel
    have HB := Lib.hid (bTrans B1 hbr)
    have HO := Lib.hid ho
    have HF := Lib.hid hf
    have hzr := hbr.size
    have hz1 := B1.size
    clear ho hf
    by_cases hlt : k < n0
    · obtain ⟨⟨rm, eid, ⟨fi, fk, ff, ft, ⟨pt, px, py⟩, fw⟩⟩, g, off, hx, rfl, g0, g1, g2, g3, g4, g5, g6, g7, g8, g9⟩ := RowN.at_ (Row.below HRE.out hbr) hlt
      have hst := take_step (f := rstep) (b := []) hx.out
      have hrp := rpok_fold ((rdE s).take k) [] RpOk.nil
      have hve := HV.out _ (List.mem_of_getElem? hx.out)
      generalize ((rdE s).take k).foldl rstep [] = l at hst hrp HO
      have HST := Lib.hid hst
      have HRP := Lib.hid hrp
      have HVE := Lib.hid hve
      have SL := Own.slOk (v := v) HO.out
      have bx := Bk.new wr [.bool rm, .int .i64 eid, .int .i64 fi, .int .i64 fk, .string ff, .string ft, .int .i64 pt, .int .i64 px, .int .i64 py, .int .i64 fw] 62 _ rfl
      have BX := Lib.hid bx
      clear hst hrp hve hx bx
      dsimp only at g0 g1 g2 g3 g4 g5 g6 g7 g8 g9
      have hal : Below wr.heap.size wr (wr.alloc (.cells #[.bool rm, .int .i64 eid, .int .i64 fi, .int .i64 fk, .string ff, .string ft, .int .i64 pt, .int .i64 px, .int .i64 py, .int .i64 fw] 62)) := bAlloc (Below.refl _ _) _
      have HRD := Lib.hid ((HO.out.below hal).rd)
      cases rm with
      | true =>
        have HE := Lib.hid (show rstep l ⟨true, eid, ⟨fi, fk, ff, ft, ⟨pt, px, py⟩, fw⟩⟩ = (removeF l eid).1 from rfl)
        go_wp2_with fail
        refine Calls.mono (impl_RemoveFactor_k v l eid _ HRP.out.few HRP.out.small SL HRD.out) ?_
        rintro e w3 ⟨v3, rfl, ho3, hf3, hb3⟩
        have hb3' := bTrans hal hb3
        go_wp2_with fail
        exact ⟨⟨k + 1, v3, by omega, by simp, rfl, by rw [HST.out, HE.out]; exact ho3, hf3.rebase (by simp; omega), bTrans hbr hb3'⟩, by simp only [intOf]; omega⟩
      | false =>
        have HE := Lib.hid (show rstep l ⟨false, eid, ⟨fi, fk, ff, ft, ⟨pt, px, py⟩, fw⟩⟩ = (addF l ⟨fi, fk, ff, ft, ⟨pt, px, py⟩, fw⟩).1 from rfl)
        have hvf : vldFactor ⟨fi, fk, ff, ft, ⟨pt, px, py⟩, fw⟩ = true := by have := HVE.out; simp [vldEntry] at this; exact this.2
        have HSZ := Lib.hid (vld_sz hvf)
        clear hvf
        go_wp2_with fail
        refine Calls.mono (impl_AddFactor_k v l ⟨fi, fk, ff, ft, ⟨pt, px, py⟩, fw⟩ _ HRP.out.few HRP.out.small HSZ.out SL HRD.out) ?_
        rintro e w3 ⟨v3, rfl, ho3, hf3, hb3⟩
        have hb3' := bTrans hal hb3
        go_wp2_with fail
        exact ⟨⟨k + 1, v3, by omega, by simp, rfl, by rw [HST.out, HE.out]; exact ho3, hf3.rebase (by simp; omega), bTrans hbr hb3'⟩, by simp only [intOf]; omega⟩
    · obtain rfl : k = n0 := by omega
      have hkk : ¬ (k : Int) < (k : Int) := by omega
      have HT2 := Lib.hid (show ((rdE s).take k).foldl rstep [] = rpl s by rw [List.take_of_length_le (by omega)]; rfl)
      rw [HT2.out] at HO
      go_wp2_with fail
      refine bodyPost_ret (v := .slice v.A v.n v.c) (by simp [*, results, Tryd.results37, go_sem]) rfl ⟨v, rfl, HO.out, HF.out, HB.out⟩
end Go.Proofs.YtebcdjpddoaajaaDoor

/- A journal that grows line by line, and its replay. Plain. -/
namespace Go.Proofs.YtebcdjpddoaajaaDoor
open Go.RowKit
set_option linter.unusedVariables false
set_option linter.unusedSimpArgs false
set_option maxRecDepth 100000
theorem take_snoc {α : Type} {l : List α} {k : Nat} {e : α} (h : l[k]? = some e) : l.take (k + 1) = l.take k ++ [e] := by
  obtain ⟨hi, he⟩ := List.getElem?_eq_some_iff.1 h
  rw [List.take_succ_eq_append_getElem hi, he]
theorem jrnL_len : ∀ (l : List Entry) (p : Int), (∀ e ∈ l, vldEntry e = true) → inR p 0 65520 = true → (jrnL l p).length ≤ 400 * l.length
  | [], p, _, _ => by simp [jrnL]
  | e :: l, p, h, hp => by
    have h1 := entT_sz (h e (by simp)) hp
    have h2 := jrnL_len l (entSum e p) (fun g hg => h g (by simp [hg])) (entSum_in e p)
    have h3 := bsize (entT e p)
    simp only [jrnL, List.length_append, List.length_cons]
    omega
theorem rd_of {s : ByteArray} {l : List Entry} (h : ∀ e ∈ l, vldEntry e = true) (hl : l.length ≤ 60) (hs : s.data.toList = jrnL l 1) : rdE s = l ∧ rdN s = s.size ∧ rdQ s = sumL l 1 := by
  have hr := rdj_all h hl
  rw [← hs] at hr
  unfold rdE rdN rdQ
  rw [hr]
  exact ⟨rfl, bsize s, rfl⟩
theorem ap_step {s : ByteArray} {E : List Entry} {k : Nat} {e : Entry} (h : ∀ e ∈ E, vldEntry e = true) (hl : E.length ≤ 16) (hk : E[k]? = some e) (hs : s.data.toList = jrnL (E.take k) 1) : (apE s e).2 = true ∧ (apE s e).1.data.toList = jrnL (E.take (k + 1)) 1 := by
  have hkl := (List.getElem?_eq_some_iff.1 hk).1
  have hv : ∀ e ∈ E.take k, vldEntry e = true := fun e he => h e (List.mem_of_mem_take he)
  obtain ⟨h1, h2, h3⟩ := rd_of hv (by rw [List.length_take]; omega) hs
  have he := h e (List.mem_of_getElem? hk)
  have hx : s.extract 0 s.size = s := by
    apply bext
    rw [ext_list]; exact List.take_of_length_le (by simp)
  rw [ap_yes he (by rw [h1, List.length_take]; omega), h2, h3, hx]
  refine ⟨rfl, ?_⟩
  rw [take_snoc hk, jrnL_app, ← hs]
  simp [jrnL, ByteArray.data_append]
theorem ent_small {e : Entry} (h : vldEntry e = true) : entOk e ∧ Factor.ok e.factor ∧ wfI e.id ∧ e.factor.bulk ≤ 16 := by
  have nm : ∀ (s : ByteArray) (c : Int), nmWith s c = true → s.size ≤ 8 := fun s c h => by
    unfold nmWith isNm at h
    simp only [Bool.and_eq_true, decide_eq_true_eq] at h
    exact h.1.1.2
  rcases ent_kinds h with ⟨f, rfl, hv, _⟩ | ⟨n, rfl, hn, _⟩
  · have hs := vld_sz hv
    have hp : psFac (fmtFac f) = some f := psFac_some (facOf_iff.2 ⟨hv, rfl⟩)
    have hg : gF (fmtFac f) = f := by unfold gF; rw [hp]; rfl
    have hok := gF_ok (fmtFac f)
    rw [hg] at hok
    obtain ⟨_, _, _, _, h5, h6, h7⟩ := vld_parts hv
    refine ⟨⟨hs.1, hs.2, by show (-9223372036854775808 : Int) ≤ 0; omega, by show (0 : Int) ≤ _; omega⟩, hok, wfz 0 (by omega) (by omega), ?_⟩
    have ha : f.frm.size ≤ 8 := by
      by_cases k : f.kind = 1
      · have e := h5 k
        rw [ByteArray.toList_eq] at e
        have := bsize f.frm
        rw [show f.frm.data.toList = [] by simpa using e] at this
        simp at this; omega
      · exact nm _ _ (h6 k)
    have hb : f.to.size ≤ 8 := by rcases h7 with h | h <;> exact nm _ _ h
    show f.frm.size + f.to.size ≤ 16
    omega
  · have z := wfz 0 (by omega) (by omega)
    exact ⟨zFac_ok _ (by omega) (by omega), ⟨by show (0 : Nat) ≤ maxLen; exact Nat.zero_le _, by show (0 : Nat) ≤ maxLen; exact Nat.zero_le _, z, z, z, z, z, z⟩, wfz n (by omega) (by omega), by show (0 : Nat) ≤ 16; omega⟩
theorem ents_bulk : ∀ (E : List Entry), (∀ e ∈ E, vldEntry e = true) → sumBulk Entry.bulk E ≤ 16 * E.length
  | [], _ => by simp [sumBulk]
  | e :: E, h => by
    have h1 := (ent_small (h e (by simp))).2.2.2
    have h2 := ents_bulk E fun g hg => h g (by simp [hg])
    have h3 : e.bulk = e.factor.bulk := rfl
    simp only [sumBulk, List.length_cons]
    omega
theorem same_reflR (f : Factor) : f.same f = true := by simp [Factor.same]
theorem sameL_reflR : ∀ l : List Factor, sameL l l = true
  | [] => rfl
  | f :: l => by simp [sameL, same_reflR, sameL_reflR l]
end Go.Proofs.YtebcdjpddoaajaaDoor

/- One element more at the end of a slice whose elements have memory of their own; make as a step of a region that draws its order. -/
namespace Go.Proofs.YtebcdjpddoaajaaDoor
open Go.RowKit
set_option linter.unusedVariables false
set_option linter.unusedSimpArgs false
set_option maxHeartbeats 400000
theorem OwSl.push {α : Type} {K : World → List Nat → List Value → α → Prop} (hK : Loc K) {B e sz n c : Nat} {w1 : World} {fs f : List Nat} {A : Option Addr} {l : List α} {cs : List Value} {x : α}
    (h : OwSl K w1 fs e sz A n c l) (hf : Fresh B w1 fs) (hk : K w1 f cs x) (hff : Fresh B w1 f) (hap : ∀ q ∈ fs, q ∉ f) (hB : B ≤ w1.heap.size) :
    ∃ css, Own w1 0 e sz A n c css ∧ ∀ w2 A' c', Own w2 0 e sz A' (n + 1) c' (css ++ [cs]) → w1.grownBy w2 (ob A) → (ob A' = ob A ∨ ob A' = some w1.heap.size) →
      ∃ fs', OwSl K w2 fs' e sz A' (n + 1) c' (l ++ [x]) ∧ Fresh B w2 fs' := by
  obtain ⟨css, fss, h1, h2, rfl⟩ := h
  refine ⟨css, h1, fun w2 A' c' ho hg hat => ?_⟩
  obtain ⟨nA, nF, nd⟩ := List.nodup_append.1 hf.nodup
  have hl2 := h2.lt_ hK
  have kp : ∀ q, q ∈ fss.flatten ∨ q ∈ f → w2.heap[q]? = w1.heap[q]? := by
    intro q hq
    refine hg.block q (by rcases hq with hq | hq; exact hl2 q hq; exact hff.hi q hq) (fun e => ?_)
    have ha := mem_obl.2 e.symm
    rcases hq with hq | hq
    · exact nd q ha q hq rfl
    · exact hap q (List.mem_append.2 (.inl ha)) hq
  have hE : Each (K w2) (fss ++ [f]) (css ++ [cs]) (l ++ [x]) := (h2.keep_ hK fun q hq => kp q (.inl hq)).append (Each.one (hK.keep hk fun q hq => kp q (.inr hq)))
  refine ⟨obl A' ++ (fss ++ [f]).flatten, ⟨css ++ [cs], fss ++ [f], ho, hE, rfl⟩, ?_⟩
  have hflat : (fss ++ [f]).flatten = fss.flatten ++ f := by simp
  rw [hflat]
  have hlt2 := hg.size
  have dA : ∀ q ∈ obl A', q ∉ fss.flatten ++ f ∧ B ≤ q ∧ q < w2.heap.size := by
    intro q hq
    have hq2 := mem_obl.1 hq
    have hql := (ho.lt q hq2).2
    rcases hat with hat | hat
    · rw [hat] at hq2
      have ha := mem_obl.2 hq2
      refine ⟨fun hm => ?_, hf.lo q (List.mem_append.2 (.inl ha)), hql⟩
      rcases List.mem_append.1 hm with hm | hm
      · exact nd q ha q hm rfl
      · exact hap q (List.mem_append.2 (.inl ha)) hm
    · rw [hat] at hq2
      have e := Option.some.inj hq2
      refine ⟨fun hm => ?_, by omega, hql⟩
      rcases List.mem_append.1 hm with hm | hm
      · have := hl2 q hm; omega
      · have := hff.hi q hm; omega
  refine ⟨?_, ?_, ?_⟩
  · refine List.nodup_append.2 ⟨by unfold obl; cases ob A' <;> simp, List.nodup_append.2 ⟨nF, hff.nodup, fun a ha b hb e => ?_⟩, fun a ha b hb e => (dA a ha).1 (e ▸ hb)⟩
    subst e
    exact hap a (List.mem_append.2 (.inr ha)) hb
  · intro q hq
    rcases List.mem_append.1 hq with hq | hq
    · exact (dA q hq).2.1
    · rcases List.mem_append.1 hq with hq | hq
      · exact hf.lo q (List.mem_append.2 (.inr hq))
      · exact hff.lo q hq
  · intro q hq
    rcases List.mem_append.1 hq with hq | hq
    · exact (dA q hq).2.2
    · rcases List.mem_append.1 hq with hq | hq
      · have := hl2 q hq; omega
      · have := hff.hi q hq; omega
theorem Each.putF {α : Type} {K K' : List Nat → List Value → α → Prop} : ∀ {fss : List (List Nat)} {css : List (List Value)} {l : List α} {i : Nat} {f' : List Nat} {cs' : List Value} {x' : α}, Each K fss css l → K' f' cs' x' →
    (∀ (j : Nat) (f2 : List Nat) (cs2 : List Value) (x2 : α), j ≠ i → fss[j]? = some f2 → css[j]? = some cs2 → l[j]? = some x2 → K f2 cs2 x2 → K' f2 cs2 x2) → Each K' (fss.set i f') (css.set i cs') (l.set i x')
  | [], [], [], i, f', cs', x', _, _, _ => trivial
  | a :: r, c :: cr, y :: lr, 0, f', cs', x', he, hk', hall =>
    ⟨hk', he.2.imp fun j f2 cs2 x2 h1 h2 h3 h4 => hall (j + 1) f2 cs2 x2 (by omega) (by simpa using h1) (by simpa using h2) (by simpa using h3) h4⟩
  | a :: r, c :: cr, y :: lr, i + 1, f', cs', x', he, hk', hall =>
    ⟨hall 0 a c y (by omega) rfl rfl rfl he.1, Each.putF he.2 hk' fun j f2 cs2 x2 hne h1 h2 h3 h4 => hall (j + 1) f2 cs2 x2 (by omega) (by simpa using h1) (by simpa using h2) (by simpa using h3) h4⟩
theorem flat_set_mem : ∀ {fss : List (List Nat)} {i : Nat} {f' : List Nat} {q : Nat}, q ∈ (fss.set i f').flatten → q ∈ f' ∨ ∃ j g, j ≠ i ∧ fss[j]? = some g ∧ q ∈ g
  | [], i, f', q, h => by simp at h
  | a :: r, 0, f', q, h => by
    rw [List.set_cons_zero, List.flatten_cons] at h
    rcases List.mem_append.1 h with h | h
    · exact .inl h
    · obtain ⟨g, hg, hq⟩ := List.mem_flatten.1 h
      obtain ⟨j, hj, rfl⟩ := List.mem_iff_getElem.1 hg
      exact .inr ⟨j + 1, _, by omega, by simp, hq⟩
  | a :: r, i + 1, f', q, h => by
    rw [List.set_cons_succ, List.flatten_cons] at h
    rcases List.mem_append.1 h with h | h
    · exact .inr ⟨0, a, by omega, rfl, h⟩
    · rcases flat_set_mem h with h | ⟨j, g, hne, hg, hq⟩
      · exact .inl h
      · exact .inr ⟨j + 1, g, by omega, by simpa using hg, hq⟩
theorem flat_set_nodup : ∀ {fss : List (List Nat)} {i : Nat} {f f' : List Nat}, fss.flatten.Nodup → fss[i]? = some f → f'.Nodup → (∀ q ∈ f', q ∈ f ∨ q ∉ fss.flatten) → (fss.set i f').flatten.Nodup
  | a :: r, 0, f, f', hn, hf, hd, hq => by
    simp only [List.getElem?_cons_zero, Option.some.injEq] at hf; subst hf
    rw [List.flatten_cons] at hn
    obtain ⟨n1, n2, n3⟩ := List.nodup_append.1 hn
    rw [List.set_cons_zero, List.flatten_cons]
    refine List.nodup_append.2 ⟨hd, n2, fun x hx y hy e => ?_⟩
    subst e
    rcases hq x hx with h | h
    · exact n3 x h x hy rfl
    · exact h (by rw [List.flatten_cons]; exact List.mem_append.2 (.inr hy))
  | a :: r, i + 1, f, f', hn, hf, hd, hq => by
    simp only [List.getElem?_cons_succ] at hf
    rw [List.flatten_cons] at hn
    obtain ⟨n1, n2, n3⟩ := List.nodup_append.1 hn
    rw [List.set_cons_succ, List.flatten_cons]
    have ih := flat_set_nodup n2 hf hd fun q hqm => by
      rcases hq q hqm with h | h
      · exact .inl h
      · exact .inr fun hm => h (by rw [List.flatten_cons]; exact List.mem_append.2 (.inr hm))
    refine List.nodup_append.2 ⟨n1, ih, fun x hx y hy e => ?_⟩
    subst e
    rcases flat_set_mem hy with h | ⟨j, g, _, hg, hxg⟩
    · rcases hq x h with h2 | h2
      · exact n3 x hx x (mem_flat hf h2) rfl
      · exact h2 (by rw [List.flatten_cons]; exact List.mem_append.2 (.inl hx))
    · exact n3 x hx x (mem_flat hg hxg) rfl
/-- element i of a slice of the call's own, to be written; its own memory may become other memory -/
theorem OwSl.refocus {α : Type} {K : World → List Nat → List Value → α → Prop} (hK : Loc K) {B : Nat} {w : World} {fs : List Nat} {e sz n c : Nat} {A : Option Addr} {l : List α} (h : OwSl K w fs e sz A n c l) (hfr : Fresh B w fs) (hB : B ≤ w.heap.size) {i : Nat} {x : α} (hx : l[i]? = some x) :
    ∃ css f cs g, Own w 0 e sz A n c css ∧ css[i]? = some cs ∧ K w f cs x ∧ A = some ⟨g, 0, none⟩ ∧ g ∉ f ∧ B ≤ g ∧ g < w.heap.size ∧ (∀ k ∈ f, B ≤ k ∧ k < w.heap.size) ∧ f.Nodup ∧
      (∀ w' cs' x' f', Own w' 0 e sz A n c (css.set i cs') → K w' f' cs' x' → Upd (g :: f) w w' → f'.Nodup → (∀ q ∈ f', q ∈ f ∨ w.heap.size ≤ q) → ∃ fs', OwSl K w' fs' e sz A n c (l.set i x') ∧ Fresh B w' fs') := by
  have hlt := h.lt hK
  obtain ⟨css, fss, h1, h2, rfl⟩ := h
  obtain ⟨f, cs, hf, hcs, hk⟩ := h2.at_ hx
  obtain ⟨hno, hnf, hna⟩ := List.nodup_append.1 hfr.nodup
  rcases h1.cases with ⟨_, _, _, rfl⟩ | ⟨g, rfl, _, hgl, _⟩
  · simp at hcs
  · have hgo : g ∈ obl (some ⟨g, 0, none⟩) := by simp [obl, ob]
    have hgf : g ∉ fss.flatten := fun hm => hna g hgo g hm rfl
    have hin : ∀ k ∈ f, k ∈ obl (some ⟨g, 0, none⟩) ++ fss.flatten := fun k hk => List.mem_append.2 (.inr (mem_flat hf hk))
    refine ⟨css, f, cs, g, h1, hcs, hk, rfl, fun hm => hgf (mem_flat hf hm), hfr.lo g (List.mem_append.2 (.inl hgo)), hgl, fun k hk => ⟨hfr.lo k (hin k hk), hlt k (hin k hk)⟩, flat_nodup hnf (List.mem_of_getElem? hf), fun w' cs' x' f' ho hk' hu hd hq => ?_⟩
    have hold : ∀ q ∈ fss.flatten, q < w.heap.size := fun q hm => hlt q (List.mem_append.2 (.inr hm))
    have hE : Each (K w') (fss.set i f') (css.set i cs') (l.set i x') := h2.putF hk' fun j f2 cs2 x2 hne h3 _ _ hk2 => by
      refine hK.keep hk2 fun k hkf => hu.block k (hK.lt hk2 k hkf) ?_
      simp only [List.mem_cons, not_or]
      exact ⟨fun e => hgf (by rw [← e]; exact mem_flat h3 hkf), flat_apart hnf h3 hf hne k hkf⟩
    have hmem : ∀ q ∈ (fss.set i f').flatten, q ∈ fss.flatten ∨ (w.heap.size ≤ q ∧ q ∈ f') := fun q hm => by
      rcases flat_set_mem hm with h | ⟨j, g2, _, hg2, hq2⟩
      · rcases hq q h with h2 | h2
        · exact .inl (mem_flat hf h2)
        · exact .inr ⟨h2, h⟩
      · exact .inl (mem_flat hg2 hq2)
    have hltE := hE.lt_ hK
    refine ⟨obl (some ⟨g, 0, none⟩) ++ (fss.set i f').flatten, ⟨css.set i cs', fss.set i f', ho, hE, rfl⟩, ?_, ?_, ?_⟩
    · refine List.nodup_append.2 ⟨hno, flat_set_nodup hnf hf hd fun q hqm => ?_, fun a ha b hb e => ?_⟩
      · rcases hq q hqm with h2 | h2
        · exact .inl h2
        · exact .inr fun hm => by have := hold q hm; omega
      · subst e
        simp [obl, ob] at ha
        subst ha
        rcases hmem a hb with h2 | h2
        · exact hgf h2
        · omega
    · intro q hm
      rcases List.mem_append.1 hm with hm | hm
      · exact hfr.lo q (List.mem_append.2 (.inl hm))
      · rcases hmem q hm with h2 | h2
        · exact hfr.lo q (List.mem_append.2 (.inr h2))
        · omega
    · intro q hm
      rcases List.mem_append.1 hm with hm | hm
      · simp [obl, ob] at hm
        have := hu.size; omega
      · exact hltE q hm
theorem OwSl.obl_mem {α : Type} {K : World → List Nat → List Value → α → Prop} {w : World} {fs : List Nat} {e sz n c : Nat} {A : Option Addr} {l : List α} (h : OwSl K w fs e sz A n c l) : ∀ q ∈ obl A, q ∈ fs := by
  obtain ⟨css, fss, _, _, rfl⟩ := h
  exact fun q hq => List.mem_append.2 (.inl hq)
theorem run_make_lit {P : Program} (w : World) (t e : TypeId) (i : TypeInfo) (z : Value) (zs : List Value) (sz bytes : Nat) (h1 : P.underlying t = some (.slice e)) (h2 : P.info? e = some i) (h3 : i.zero = some z) (h4 : i.size = sz) (h5 : i.bytes = bytes) (hzs : z.cells = zs.toArray) (n : Nat) (b2 : bytes * n ≤ 281474976710656) (b3 : n ≤ maxLen) :
    (Instr.makeSlice t (.int .i64 (n : Int)) (.int .i64 (n : Int))).run P w = .ok (.slice (some ⟨w.heap.size, 0, none⟩) n n) (w.alloc (.cells (madeCells zs.toArray (n * sz)) e)) := by
  have h63' : (n : Int) ≤ 9223372036854775807 := by
    have h := b3
    simp [maxLen] at h
    omega
  have hb' : (i.bytes : Int) * (n : Int) ≤ 281474976710656 := by
    have h : ((i.bytes * n : Nat) : Int) ≤ 281474976710656 := by rw [h5]; omega
    rwa [Int.natCast_mul] at h
  have hr := run_make (P := P) w t e i z h1 h2 h3 .i64 .i64 n n (by omega) (Int.le_refl _) hb' h63'
  simp only [Int.toNat_natCast, h4, hzs] at hr
  exact hr
theorem Own.lit (w : World) (e n sz : Nat) (zs : List Value) {B : Nat} {MC : Array Value} (hB : B ≤ w.heap.size) (hM : MC = madeCells zs.toArray (n * sz)) (hzl : zs.length = sz) (hs : 0 < sz) (b3 : n ≤ maxLen) : Own (w.alloc (.cells MC e)) B e sz (some ⟨w.heap.size, 0, none⟩) n n (List.replicate n zs) := by
  subst hM
  have r1 := World.ownsRow_lit w (e := e) (size := sz) (madeCells zs.toArray (n * sz)) n hB b3 (size_madeCells _ _)
  refine ⟨?_, by simp, fun cs hcs => by rw [List.eq_of_mem_replicate hcs, hzl]⟩
  rw [← madeCells_flat zs n sz hzl hs]; exact r1
/-- make([]T, n), as a step of a region that draws its order -/
theorem step_make {P : Program} {w : World} {ops : Array Oper} {o : Oper} {a : Act} {Q : Exit → Act → World → Prop} {K : Act → World → Prop} {E : Prop} (hgd : o.guard = none) (l c : Operand) (t : TypeId) (hop : o.op = Op.makeSlice t l c)
    (B e sz bytes : Nat) (i : TypeInfo) (z : Value) (h1 : P.underlying t = some (.slice e)) (h2 : P.info? e = some i) (h3 : i.zero = some z) (h4 : i.size = sz) (h5 : i.bytes = bytes)
    (kl kc : IntKind) (n : Nat) (hl : a.eval l = .int kl (n : Int)) (hc : a.eval c = .int kc (n : Int)) (zs : List Value) (hzs : z.cells = zs.toArray) (hzl : zs.length = sz) (hs : 0 < sz) (b2 : bytes * n ≤ 281474976710656) (b3 : n ≤ maxLen) (b4 : B ≤ w.heap.size)
    (hK : ∀ w', Own w' B e sz (some ⟨w.heap.size, 0, none⟩) n n (List.replicate n zs) → w.grownBy w' none → K (a.put o.dst (.slice (some ⟨w.heap.size, 0, none⟩) n n)) w') :
    if Region.wanted o (yielded ops a.tmps) = true then Oper.wp P o a w K Q else E := by
  have hw : Region.wanted o (yielded ops a.tmps) = true := by simp [Region.wanted, hgd]
  rw [if_pos hw]
  obtain ⟨w', hrun, r1, r2⟩ := run_make_full (P := P) w B t e i z sz h1 h2 h3 h4 kl kc n (by rw [h5]; exact b2) b3 b4
  unfold Oper.wp
  simp [execOp, hop, hl, hc, hrun, Result.andThen]
  refine hK w' ⟨?_, by simp, ?_⟩ r2
  · rw [hzs, madeCells_flat zs n sz hzl hs] at r1; exact r1
  · intro cs hcs; rw [List.eq_of_mem_replicate hcs, hzl]
theorem own_cells {w : World} {B e sz n c g k : Nat} {css : List (List Value)} {cs : List Value} (h : Own w B e sz (some ⟨g, 0, none⟩) n c css) (hcs : css[k]? = some cs) : ∀ (j : Nat) (u : Value), cs[j]? = some u → w.cell? ⟨g, k * sz + j, none⟩ = some u := by
  intro j u hu
  obtain ⟨g', off', hA, hc⟩ := h.row.2 k cs hcs
  simp only [Option.some.injEq, Addr.mk.injEq, and_true] at hA
  obtain ⟨rfl, rfl⟩ := hA
  simpa using hc j u hu
end Go.Proofs.YtebcdjpddoaajaaDoor

/- The draws of places: l01Pick, l26Bits, l26Draw, MakePlaces: valid places, few of them. -/
namespace Go.Proofs.YtebcdjpddoaajaaDoor
open Go.RowKit
set_option linter.unusedVariables false
set_option linter.unusedSimpArgs false
set_option maxHeartbeats 1000000
set_option maxRecDepth 100000
theorem pick_row (w : World) (a0 a1 a2 a3 a4 : Int) : RowI (w.alloc (.cells #[.int .i64 a0, .int .i64 a1, .int .i64 a2, .int .i64 a3, .int .i64 a4] 3)) (some ⟨w.heap.size, 0, none⟩) 5 [a0, a1, a2, a3, a4] := by
  have e : (w.alloc (.cells #[.int .i64 a0, .int .i64 a1, .int .i64 a2, .int .i64 a3, .int .i64 a4] 3)).heap[w.heap.size]? = some (.cells #[.int .i64 a0, .int .i64 a1, .int .i64 a2, .int .i64 a3, .int .i64 a4] 3) := heap_alloc_new w _
  refine ⟨rfl, fun i cs hi => ⟨w.heap.size, 0, rfl, fun j v hv => ?_⟩⟩
  unfold World.cell?
  rw [e]
  match i with
  | 0 | 1 | 2 | 3 | 4 =>
    simp [intCells] at hi
    subst hi
    match j with
    | 0 => simp at hv; subst hv; rfl
    | j + 1 => simp at hv
  | i + 5 => simp at hi
theorem flip_range {z q : Int} (h0 : 0 ≤ z) (h1 : z ≤ 1073741823) (h2 : 0 ≤ q) (h3 : q < 30) : 0 ≤ bits .xor .i64 z (wrap64 (2 ^ q.toNat)) ∧ bits .xor .i64 z (wrap64 (2 ^ q.toNat)) ≤ 1073741823 := by
  obtain ⟨m, rfl⟩ := Int.eq_ofNat_of_zero_le h2
  have hm : m ≤ 29 := by omega
  have hp : 2 ^ m ≤ 2 ^ 29 := Nat.pow_le_pow_right (by decide) hm
  have e : ((2 : Int) ^ m) = ((2 ^ m : Nat) : Int) := (Int.natCast_pow 2 m).symm
  have hp' : (2 : Nat) ^ m ≤ 536870912 := hp
  have hq : (2 : Int) ^ m ≤ 536870912 := by rw [e]; exact Int.ofNat_le.2 hp'
  have hq' : (0 : Int) ≤ (2 : Int) ^ m := by rw [e]; exact Int.natCast_nonneg _
  have hw : wrap64 ((2 : Int) ^ ((m : Int)).toNat) = ((2 ^ m : Nat) : Int) := by
    rw [Int.toNat_natCast, e]
    rw [← e]
    exact IntWalk.wrap64_in _ ⟨by omega, by omega⟩
  rw [e] at hq hq'
  rw [hw]
  obtain ⟨X, hX, hle, _⟩ := xor_bits (a := z) (b := ((2 ^ m : Nat) : Int)) h0 h1 (by omega) (by omega)
  rw [hX]
  omega
/-- the name of place k -/
def pnm (k : Nat) : ByteArray := ⟨#[112]⟩ ++ itoaB (k : Int)
theorem pnm_eq {k : Nat} (h : k < 10) : pnm k = ⟨#[112, UInt8.ofNat (48 + k)]⟩ := by
  apply bext
  unfold pnm itoaB
  rw [Lib.itoa_nonneg, Lib.decDigits_one h, ByteArray.data_append, Array.toList_append]
  rfl
/-- what the draw makes -/
def PDraw (l : List Place) : Prop := l.length ≤ 5 ∧ ∀ (k : Nat) (p : Place), l[k]? = some p → p.name = pnm k ∧ 0 ≤ p.bits ∧ p.bits ≤ 1073741823
theorem nm_ok : ∀ k : Fin 10, isPoseNm ⟨#[112, UInt8.ofNat (48 + k.val)]⟩ = true := by decide +kernel
theorem nm_new : ∀ k : Fin 10, hasStr ((List.range k.val).map fun j => (⟨#[112, UInt8.ofNat (48 + j)]⟩ : ByteArray)) ⟨#[112, UInt8.ofNat (48 + k.val)]⟩ = false := by decide +kernel
theorem plL_draw : ∀ (l : List Place) (s : Nat), (∀ (k : Nat) (p : Place), l[k]? = some p → p.name = pnm (s + k) ∧ 0 ≤ p.bits ∧ p.bits ≤ 1073741823) → s + l.length ≤ 10 → plL l ((List.range s).map fun j => (⟨#[112, UInt8.ofNat (48 + j)]⟩ : ByteArray)) = true
  | [], _, _, _ => rfl
  | p :: l, s, h, hs => by
    simp only [List.length_cons] at hs
    obtain ⟨h1, h2, h3⟩ := h 0 p rfl
    rw [Nat.add_zero, pnm_eq (by omega)] at h1
    have ih := plL_draw l (s + 1) (fun k q hq => by have := h (k + 1) q (by simpa using hq); rwa [show s + (k + 1) = s + 1 + k by omega] at this) (by omega)
    rw [List.range_succ, List.map_append] at ih
    have e1 := nm_ok ⟨s, by omega⟩
    have e2 := nm_new ⟨s, by omega⟩
    simp only at e1 e2
    have e3 : inR p.bits 0 1073741823 = true := inR_iff.2 ⟨h2, h3⟩
    unfold plL vldPlace
    rw [h1, e1, e2, e3]
    simpa using ih
theorem PDraw.isPL {l : List Place} (h : PDraw l) : isPL l = true := by
  have h1 := plL_draw l 0 (fun k p hk => by have := h.2 k p hk; simpa using this) (by have := h.1; omega)
  have h2 := h.1
  unfold Go.Proofs.YtebcdjpddoaajaaDoor.isPL
  simp only [Bool.and_eq_true, decide_eq_true_eq]
  exact ⟨by omega, h1⟩
theorem PDraw.push {l : List Place} {z : Int} (h : PDraw l) (hl : l.length ≤ 4) (h0 : 0 ≤ z) (h1 : z ≤ 1073741823) : PDraw (l ++ [⟨pnm l.length, z⟩]) := by
  refine ⟨by simp; omega, fun k p hk => ?_⟩
  by_cases hlt : k < l.length
  · rw [List.getElem?_append_left hlt] at hk
    exact h.2 k p hk
  · rw [List.getElem?_append_right (by omega)] at hk
    have : k - l.length = 0 := by
      rcases Nat.eq_zero_or_pos (k - l.length) with h9 | h9
      · exact h9
      · rw [List.getElem?_eq_none (by simp; omega)] at hk; cases hk
    rw [this] at hk
    simp only [List.getElem?_cons_zero, Option.some.injEq] at hk
    subst hk
    have e : k = l.length := by omega
    subst e
    exact ⟨rfl, h0, h1⟩
theorem Upd.grown_hi2 {fs : List Nat} {a b c : World} {row : Option Nat} (h : Upd fs a b) (k : b.grownBy c row) (hr : ∀ q, row = some q → a.heap.size ≤ q) : Upd fs a c :=
  ⟨k.os.trans h.os, k.tape.trans h.tape, k.output.trans h.output, Nat.le_trans h.size k.size, fun i hi hn => (k.block i (Nat.lt_of_lt_of_le hi h.size) (fun e => by have := hr i e.symm; omega)).trans (h.block i hi hn)⟩
theorem Cur.keep {W w w' : World} {b : Nat} {A : Option Addr} {n c : Nat} (h : Cur W w b A n c) (hB : Below W.heap.size W w') (hk : w'.heap[b]? = w.heap[b]?) : Cur W w' b A n c := by
  have e1 : ∀ o, w'.cell? ⟨b, o, none⟩ = w.cell? ⟨b, o, none⟩ := fun o => World.cell?_of_block (a := ⟨b, o, none⟩) hk
  have e2 : ∀ o, w'.frozen? ⟨b, o, none⟩ = w.frozen? ⟨b, o, none⟩ := fun o => World.frozen?_of_block (a := ⟨b, o, none⟩) hk
  obtain ⟨i, hi, h1⟩ := h.c1
  obtain ⟨k, h2⟩ := h.c2
  exact ⟨hB, h.hb, (e1 0).trans h.c0, ⟨i, hi, (e1 1).trans h1⟩, ⟨k, (e1 2).trans h2⟩, fun o => (e2 o).trans (h.fz o)⟩
end Go.Proofs.YtebcdjpddoaajaaDoor
