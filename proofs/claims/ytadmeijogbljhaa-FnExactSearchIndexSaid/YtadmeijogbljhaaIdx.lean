/- Place indices: how they lie in memory; the laws' helpers on them. -/
import Derived.Test.YtadmeijogbljhaaFlat
import Derived.Test.YtadmeijogbljhaaOpen
import Derived.Test.YtadmeijogbljhaaChan2
namespace Go.Proofs.Ytadmeijogbljhaa
open Go.RowKit
set_option linter.unusedVariables false
set_option linter.unusedSimpArgs false
set_option maxHeartbeats 1600000
set_option maxRecDepth 100000
structure XV where
  p : Sv
  e : Sv
abbrev vPIdx (v : XV) : Value := .agg #[.slice v.p.A v.p.n v.p.c, .slice v.e.A v.e.n v.e.c]
structure RdX (w : World) (v : XV) (x : PIdx) : Prop where
  p : RdP w v.p x.places
  e : RdL w v.e x.entries
structure OwX (w : World) (v : XV) (x : PIdx) : Prop where
  p : OwP w v.p x.places
  e : OwL w v.e x.entries
def fpX (v : XV) : List Nat := fpP v.p ++ fpL v.e
theorem OwX.rd {w : World} {v : XV} {t : PIdx} (h : OwX w v t) : RdX w v t := ⟨h.p.rd, h.e.rd⟩
theorem RdX.below {w w' : World} {v : XV} {t : PIdx} (h : RdX w v t) (hb : Below w.heap.size w w') : RdX w' v t := ⟨h.p.below hb, h.e.below hb⟩
theorem OwX.lt {w : World} {v : XV} {t : PIdx} (h : OwX w v t) : ∀ k ∈ fpX v, k < w.heap.size := by
  intro k hk
  rcases List.mem_append.1 hk with hk | hk
  · exact h.p.lt k hk
  · exact h.e.lt k hk
theorem OwX.keep {w w' : World} {v : XV} {t : PIdx} (h : OwX w v t) (hw : ∀ k ∈ fpX v, w'.heap[k]? = w.heap[k]?) : OwX w' v t :=
  ⟨h.p.keep fun k hk => hw k (List.mem_append.2 (.inl hk)), h.e.keep fun k hk => hw k (List.mem_append.2 (.inr hk))⟩
theorem OwX.below {w w' : World} {v : XV} {t : PIdx} (h : OwX w v t) (hb : Below w.heap.size w w') : OwX w' v t := h.keep fun k hk => hb.block k (h.lt k hk)
theorem OwX.upd {w w' : World} {v : XV} {t : PIdx} {fs : List Nat} (h : OwX w v t) (hu : Upd fs w w') (hd : ∀ k ∈ fpX v, k ∉ fs) : OwX w' v t := h.keep fun k hk => hu.block k (h.lt k hk) (hd k hk)
def okX (x : PIdx) : Prop := okP x.places ∧ okL x.entries
def lenX (v : XV) : Prop := lenP v.p ∧ lenL v.e
def bulkX (x : PIdx) : Nat := bulkP x.places + bulkL x.entries
def fewX (x : PIdx) : Prop := fewP x.places ∧ fewL x.entries
theorem fewX_of {x : PIdx} (h : bulkX x ≤ 1048576) : fewX x := ⟨fewP_of (by unfold bulkX at h; omega), fewL_of (by unfold bulkX at h; omega)⟩
def cntX (x : PIdx) : Nat := cntP x.places + cntL x.entries
def mkX (k : Int) (x : PIdx) : PIdx := ⟨mkP k x.places, mkL (k + cntP x.places) x.entries⟩
theorem cntX_few {x : PIdx} (h : fewX x) : (cntX x : Int) ≤ 20000000 := by
  have h1 := h.1; have h2 := h.2
  unfold fewP at h1; unfold fewL at h2; unfold cntX cntP cntL; omega
theorem idx_end {w w1 w2 X1 X2 : World} {vp ve : Sv} {x : PIdx} (H : Below w.heap.size w w1) (hz : w.heap.size + 3 ≤ w1.heap.size)
    (hop : OwP w1 vp x.places) (hlo : Hid (∀ q ∈ fpP vp, w.heap.size + 3 ≤ q)) (hfp : Fresh 0 w1 (fpP vp)) (u1 : Upd [w.heap.size + 1, w.heap.size + 1 + 1] w1 X1) (hb2 : Below X1.heap.size X1 w2)
    (hoe : OwL w2 ve x.entries) (hfe : Fresh X1.heap.size w2 (fpL ve)) (u2 : Upd [w.heap.size + 1, w.heap.size + 1 + 1] w2 X2) :
    OwX X2 ⟨vp, ve⟩ x ∧ Fresh w.heap.size X2 (fpX ⟨vp, ve⟩) ∧ Below w.heap.size w X2 := by
  have U1 := (u1.then_below hb2).trans u2
  have a0 : ∀ k ∈ [w.heap.size + 1, w.heap.size + 1 + 1], k < w.heap.size + 3 := by intro k hk; simp at hk; omega
  have s1 := u1.size; have s2 := u2.size; have y2 := hb2.size
  refine ⟨⟨hop.upd U1 (fun k hk hm => by have h1 := hlo.out k hk; have h2 := a0 k hm; omega), hoe.upd u2 (fun k hk hm => by have h1 := hfe.lo k hk; have h2 := a0 k hm; omega)⟩, ?_, bUpd H U1 (fun k hk => by simp at hk; omega)⟩
  have hfp' : Fresh w.heap.size w1 (fpP vp) := ⟨hfp.nodup, fun g hg => by have := hlo.out g hg; omega, hfp.hi⟩
  exact hfp'.then_ (hfe.grow s2) (by omega) (by omega) (by omega)
theorem szPlaceIndex_k (v : XV) (t : PIdx) (left : Int) (w : World) (h1 : 0 ≤ left) (h2 : left ≤ 1048576) (hl : lenX v) (hok : okX t) (hr : RdX w v t) :
    Calls Try.prog 62 #[vPIdx v, .int .i64 left] w fun e w' => SzPost left (bulkX t) e ∧ Below w.heap.size w w' := by
  have e0 := hr.p.len; have e1 := hr.e.len
  obtain ⟨l0, l1⟩ := hl
  obtain ⟨o0, o1⟩ := hok
  go_enter Try.func62, Try.ntmps62
  go_wp2_with fail
  refine Calls.mono (szPlaceS_k v.p t.places left _ h1 h2 l0 o0 ?_) ?_
  · exact RdP.below hr.p (bAlloc (Below.refl _ _) _)
  rintro e w1 ⟨⟨r0, rfl, hp⟩, hb1⟩
  have hk := bBox hb1 w.heap.size (by simp)
  have H := bTrans (bAlloc (Below.refl w.heap.size w) _) hb1
  rcases hp with rfl | ⟨p0, s0⟩
  · go_wp2_with fail
    go_ret
    exact ⟨⟨_, rfl, .inl rfl⟩, H⟩
  have q0 : r0 ≤ 1048576 := by have := s0.out; omega
  have n0 : ¬ r0 < 0 := by omega
  go_wp2_with fail
  refine Calls.mono (szPlaceEntryS_k v.e t.entries r0 _ p0 q0 l1 o1 ?_) ?_
  · exact RdL.below hr.e H
  rintro e w2 ⟨⟨r1, rfl, hp⟩, hb2⟩
  have H := bTrans H hb2
  rcases hp with rfl | ⟨p1, s1⟩
  · go_wp2_with fail
    go_ret
    exact ⟨⟨_, rfl, .inl rfl⟩, H⟩
  have n1 : ¬ r1 < 0 := by omega
  go_wp2_with fail
  go_ret
  refine ⟨⟨_, rfl, .inr ⟨p1, ?_⟩⟩, H⟩
  have := s0.out; have := s1.out; have := e0.out; have := e1.out
  unfold bulkX Hid at *; push_cast; omega
theorem toPlaceIndex_k (v : XV) (t : PIdx) (w : World) (hm : fewX t) (hr : RdX w v t) :
    Calls Try.prog 64 #[vPIdx v] w fun e w' => ∃ v' : XV, e = .returned (vPIdx v') ∧ OwX w' v' t ∧ Fresh w.heap.size w' (fpX v') ∧ Below w.heap.size w w' := by
  obtain ⟨m0, m1⟩ := hm
  go_enter Try.func64, Try.ntmps64
  go_wp2_with fail
  refine Calls.mono (toPlaceS_k v.p t.places _ m0 ?_) ?_
  · exact RdP.below hr.p (by repeat (first | with_reducible exact Below.refl _ _ | with_reducible refine bAlloc ?_ _))
  rintro e w1 ⟨v1, rfl, ho1, hf1, hb1⟩
  have H := bTrans (by repeat (first | with_reducible exact Below.refl _ _ | with_reducible refine bAlloc ?_ _) : Below w.heap.size w _) hb1
  have H1 := H
  have hz1 : w.heap.size + 3 ≤ w1.heap.size := by have := hb1.size; simp at this; omega
  have hlo : Hid (∀ q ∈ fpP v1, w.heap.size + 3 ≤ q) := fun q hq => by have h1 := hf1.lo q hq; simp at h1; omega
  have k0 := bBox hb1 (w.heap.size) (by simp; try omega)
  have k1 := bBox hb1 (w.heap.size + 1) (by simp; try omega)
  have k2 := bBox hb1 (w.heap.size + 1 + 1) (by simp; try omega)
  have f1 := bBoxF hb1 (w.heap.size + 1) (by simp; try omega)
  have f2 := bBoxF hb1 (w.heap.size + 1 + 1) (by simp; try omega)
  go_wp2_with fail
  refine Calls.mono (toPlaceEntryS_k v.e t.entries _ m1 ?_) ?_
  · exact RdL.below hr.e (by repeat (first | exact H | refine bSet ?_ (by simp; omega) _))
  rintro e w2 ⟨v2, rfl, ho2, hf2, hb2⟩
  have H := bTrans (by repeat (first | exact H | refine bSet ?_ (by simp; omega) _) : Below w.heap.size w _) hb2
  have hz2 : w.heap.size + 3 ≤ w2.heap.size := by have := hb2.size; simp at this; omega
  have k20 := bBox hb2 (w.heap.size) (by simp; try omega)
  have k21 := bBox hb2 (w.heap.size + 1) (by simp; try omega)
  have k22 := bBox hb2 (w.heap.size + 1 + 1) (by simp; try omega)
  have f21 := bBoxF hb2 (w.heap.size + 1) (by simp; try omega)
  have f22 := bBoxF hb2 (w.heap.size + 1 + 1) (by simp; try omega)
  go_wp2_with fail
  refine bodyPost_ret (v := vPIdx ⟨v1, v2⟩) (by simp [*, results, Try.results64, go_sem]) rfl ⟨_, rfl, ?_⟩
  exact idx_end H1 hz1 ho1 hlo (hf1.rebase (Nat.zero_le _)) (by repeat (first | with_reducible exact Upd.refl _ _ | (with_reducible refine Upd.set_in ?_ ?_ _); rotate_left; simp)) hb2 ho2 hf2 (by repeat (first | with_reducible exact Upd.refl _ _ | (with_reducible refine Upd.set_in ?_ ?_ _); rotate_left; simp))
theorem eqPlaceIndex_k (v v2 : XV) (t : PIdx) (w : World) (hm : fewX t) (hr : RdX w v t) (hr2 : RdX w v2 t) :
    Calls Try.prog 66 #[vPIdx v, vPIdx v2] w fun e w' => e = rBool true ∧ Below w.heap.size w w' := by
  obtain ⟨m0, m1⟩ := hm
  go_enter Try.func66, Try.ntmps66
  go_wp2_with fail
  refine Calls.mono (eqPlaceS_k v.p v2.p t.places _ m0 ?_ ?_) ?_
  · exact RdP.below hr.p (bAlloc (bAlloc (Below.refl _ _) _) _)
  · exact RdP.below hr2.p (bAlloc (bAlloc (Below.refl _ _) _) _)
  rintro e w1 ⟨rfl, hb1⟩
  have H := bTrans (bAlloc (bAlloc (Below.refl _ _) _) _) hb1
  have k1 := bBox hb1 (w.heap.size) (by simp; try omega)
  have k2 := bBox hb1 (w.heap.size + 1) (by simp; try omega)
  go_wp2_with fail
  refine Calls.mono (eqPlaceEntryS_k v.e v2.e t.entries _ m1 ?_ ?_) ?_
  · exact RdL.below hr.e H
  · exact RdL.below hr2.e H
  rintro e w2 ⟨rfl, hb2⟩
  go_wp2_with fail
  go_ret
  exact ⟨rfl, bTrans H hb2⟩
theorem markPlaceIndex_k (v : XV) (t : PIdx) (k0 : Int) (w : World) (hk0 : 0 ≤ k0) (hk1 : k0 ≤ 1000000000) (hm : fewX t) (ho : OwX w v t) (hnd : (fpX v).Nodup) :
    Calls Try.prog 69 #[vPIdx v, .int .i64 k0] w fun e w' => e = rInt (k0 + cntX t) ∧ OwX w' v (mkX k0 t) ∧ Upd (fpX v) w w' := by
  obtain ⟨m0, m1⟩ := hm
  have hcf := cntP_few m0
  obtain ⟨o0, o1⟩ := ho
  obtain ⟨n0, n1, d0⟩ := List.nodup_append.1 hnd
  have z0 := o0.lt
  have z1 := o1.lt
  go_enter Try.func69, Try.ntmps69
  go_wp2_with fail
  refine Calls.mono (markPlaceS_k v.p t.places k0 _ hk0 (by omega) m0 ?_ n0) ?_
  · exact o0.below (bAlloc (Below.refl _ _) _)
  rintro e w1 ⟨rfl, p0, u0⟩
  have o1 := (o1.below (bAlloc (Below.refl _ _) _)).upd u0 (fun k hk hm => d0 k hm k hk rfl)
  have hz : w.heap.size + 1 ≤ w1.heap.size := by have := u0.size; simp at this; omega
  have kk0 := uBox u0 w.heap.size (by simp) (fun hm => by have := z0 _ hm; omega)
  go_wp2_with fail
  refine Calls.mono (markPlaceEntryS_k v.e t.entries _ _ (by omega) (by omega) m1 ?_ n1) ?_
  · exact o1
  rintro e w2 ⟨rfl, p1, u1⟩
  have p0 := p0.upd u1 (fun k hk hm => d0 k hk k hm rfl)
  go_wp2_with fail
  go_ret
  exact ⟨ret_int (by unfold cntX; push_cast; omega), ⟨p0, p1⟩, ((Upd.of_below (bAlloc (Below.refl _ _) _)).trans (u0.mono fun k hk => List.mem_append.2 (.inl hk))).trans (u1.mono fun k hk => List.mem_append.2 (.inr hk))⟩
theorem heldPlaceIndex_k (v : XV) (t : PIdx) (k0 : Int) (w : World) (hk0 : 0 ≤ k0) (hk1 : k0 ≤ 1000000000) (hm : fewX t) (hr : RdX w v (mkX k0 t)) :
    Calls Try.prog 70 #[vPIdx v, .int .i64 k0] w fun e w' => e = rInt (k0 + cntX t) ∧ Below w.heap.size w w' := by
  obtain ⟨m0, m1⟩ := hm
  have hcf := cntP_few m0
  have hcg := cntL_few m1
  obtain ⟨r0, r1⟩ := hr
  have n0 : ¬ k0 + (cntP t.places : Int) < 0 := by omega
  have n1 : ¬ k0 + (cntP t.places : Int) + (cntL t.entries : Int) < 0 := by omega
  go_enter Try.func70, Try.ntmps70
  go_wp2_with fail
  refine Calls.mono (heldPlaceS_k v.p t.places k0 _ hk0 (by omega) m0 ?_) ?_
  · exact RdP.below r0 (bAlloc (Below.refl _ _) _)
  rintro e w1 ⟨rfl, hb1⟩
  have H := bTrans (bAlloc (Below.refl _ _) _) hb1
  have k1 := bBox hb1 w.heap.size (by simp)
  go_wp2_with fail
  refine Calls.mono (heldPlaceEntryS_k v.e t.entries _ _ (by omega) (by omega) m1 ?_) ?_
  · exact RdL.below r1 H
  rintro e w2 ⟨rfl, hb2⟩
  go_wp2_with fail
  go_ret
  exact ⟨ret_int (by unfold cntX; push_cast; omega), bTrans H hb2⟩
theorem cells_plS : Try.prog.cellsOf 55 = 1 := by kernel_rfl
theorem cells_peS : Try.prog.cellsOf 84 = 1 := by kernel_rfl
theorem cells_PlaceEntry_ : Try.prog.cellsOf 204 = 3 := by kernel_rfl
theorem cells_PlaceIndex : Try.prog.cellsOf 86 = 2 := by kernel_rfl
def gPE (cs : List Value) : Prop := ∃ f : PlaceEntry, cs = f.cells ∧ True
theorem opens_PE (w : World) : Opens Try.prog w 204 gPE := fun H enc base fuel spare held cs x h => by
  obtain ⟨hl, hf⟩ := opens_field Try.underlying204 h
  rw [cells_PlaceEntry_] at hl
  obtain ⟨a, b, c, rfl⟩ := len3 hl
  obtain ⟨n0, e0, w0⟩ := hf 0 _ gInt rfl (opens_int Try.underlying3)
  obtain ⟨n1, e1, w1⟩ := hf 1 _ gInt rfl (opens_int Try.underlying3)
  obtain ⟨n2, e2, w2⟩ := hf 2 _ gInt rfl (opens_int Try.underlying3)
  simp [cells_int] at e0 e1 e2
  subst e0 e1 e2
  exact ⟨⟨n0, n1, n2⟩, rfl, trivial⟩
theorem rowL_of {w : World} {cs : List Value} (h : gSlice w 3 gPE cs) : ∃ A n c l, cs = [.slice A n c] ∧ n ≤ maxLen ∧ RowE w A n l := by
  obtain ⟨A, n, c, css, rfl, h1, h2, h3, h4⟩ := h
  obtain ⟨l, rfl, hl⟩ := list_of (c := PlaceEntry.cells) (ok := fun _ => True) css (fun es hes => (h4 es hes).2)
  exact ⟨A, n, c, l, rfl, by omega, h3⟩
def gPIdx (w : World) (cs : List Value) : Prop := ∃ (v : XV) (t : PIdx), cs = [.slice v.p.A v.p.n v.p.c, .slice v.e.A v.e.n v.e.c] ∧ RdX w v t ∧ okX t ∧ lenX v
theorem opens_PlaceIndex (w : World) : Opens Try.prog w 86 (gPIdx w) := fun H enc base fuel spare held cs x h => by
  obtain ⟨hl, hf⟩ := opens_field Try.underlying86 h
  rw [cells_PlaceIndex] at hl
  obtain ⟨a, b, rfl⟩ := len2 hl
  obtain ⟨A0, n0, c0, l0, e0, s0, r0, k0⟩ := rowP_of (hf 0 _ _ rfl (opens_PlaceS w))
  obtain ⟨A1, n1, c1, l1, e1, s1, r1⟩ := rowL_of (hf 1 _ _ rfl (opens_slice Try.underlying84 cells_PlaceEntry_ (opens_PE w) (by omega)))
  simp [cells_plS, cells_peS] at e0 e1
  subst e0 e1
  exact ⟨⟨⟨A0, n0, c0⟩, ⟨A1, n1, c1⟩⟩, ⟨l0, l1⟩, rfl, ⟨r0, r1⟩, ⟨k0, fun _ _ => trivial⟩, s0, s1⟩
end Go.Proofs.Ytadmeijogbljhaa
