/- Teams: UnionOf: what the two of each answer. -/
import Derived.Test.YtadmeijogbljhaaTeamF
import Derived.Test.YtadmeijogbljhaaMerge
namespace Go.Proofs.Ytadmeijogbljhaa
open Go.RowKit
set_option linter.unusedVariables false
set_option linter.unusedSimpArgs false
set_option maxHeartbeats 1600000
set_option maxRecDepth 100000
def uStep (l : List Factor) (r : Robot) : List Factor := addAll l r.factors
theorem addF_isFL {l : List Factor} {f : Factor} (h : isFL l = true) : isFL (addF l f).1 = true := by
  unfold addF
  split
  · rename_i hc
    simp only [Bool.and_eq_true] at hc
    exact hc.2
  · exact h
theorem addAll_isFL : ∀ (m l : List Factor), isFL l = true → isFL (addAll l m) = true
  | [], _, h => h
  | f :: m, l, h => addAll_isFL m _ (addF_isFL h)
theorem union_isFL : ∀ (rs : List Robot) (l : List Factor), isFL l = true → isFL (rs.foldl uStep l) = true
  | [], _, h => h
  | r :: rs, l, h => union_isFL rs _ (addAll_isFL _ _ h)
theorem unionOf_at {t : Team} (h : isTeam t = true) : unionOf t = t.robots.foldl uStep [] := by unfold unionOf; rw [h]; rfl
theorem unionOf_no {t : Team} (h : isTeam t = false) : unionOf t = [] := by simp [unionOf, h]
theorem fewF_FL {l : List Factor} (h : isFL l = true) : fewF l := by have := isFL_len h; unfold fewF; omega
theorem isFL_nil : isFL [] = true := by decide
theorem fewF_union (t : Team) : fewF (unionOf t) := by
  cases h : isTeam t with
  | true => rw [unionOf_at h]; exact fewF_FL (union_isFL _ _ isFL_nil)
  | false => rw [unionOf_no h]; exact fewF_FL isFL_nil
def UInv (t : Team) (rs : List Robot) (L : List Factor) (k : Nat) : Prop := unionOf t = (rs.drop k).foldl uStep L
def VInv (t : Team) (m : List Factor) (rest : List Robot) (L : List Factor) (j : Nat) : Prop := unionOf t = rest.foldl uStep (addAll L (m.drop j))
theorem UInv.step {t : Team} {rs : List Robot} {L : List Factor} {k : Nat} {r : Robot} (h : UInv t rs L k) (hr : Hid (rs[k]? = some r)) : VInv t r.factors (rs.drop (k + 1)) L 0 := by
  unfold UInv at h; unfold VInv; rw [h, drop_at hr]; rfl
theorem UInv.done {t : Team} {rs : List Robot} {L : List Factor} {k n : Nat} (h : UInv t rs L k) (hl : Hid (rs.length = n)) (hk : ¬ k < n) : Hid (unionOf t = L) := by
  unfold UInv at h; rw [Hid, h, drop_end hl hk]; rfl
theorem VInv.step {t : Team} {m : List Factor} {rest : List Robot} {L : List Factor} {j : Nat} {f : Factor} (h : VInv t m rest L j) (hf : Hid (m[j]? = some f)) : VInv t m rest (addF L f).1 (j + 1) := by
  unfold VInv at *; rw [h, drop_at hf]; rfl
theorem VInv.done {t : Team} {m : List Factor} {rs : List Robot} {L : List Factor} {j n k : Nat} (h : VInv t m (rs.drop (k + 1)) L j) (hl : Hid (m.length = n)) (hj : ¬ j < n) : UInv t rs L (k + 1) := by
  unfold VInv at h; unfold UInv; rw [h, drop_end hl hj]; rfl
/-- a list on its way: the call's own, a factor list -/
structure UPost (w wr : World) (V : Sv) (L : List Factor) : Prop where
  ow : OwF wr V L
  fr : Fresh w.heap.size wr (fpF V)
  fl : isFL L = true
  sm : smallFs L
theorem UPost.below {w wr w2 : World} {V : Sv} {L : List Factor} (h : UPost w wr V L) (hb : Below wr.heap.size wr w2) : UPost w w2 V L := ⟨h.ow.below hb, h.fr.grow hb.size, h.fl, h.sm⟩
theorem slice1 (g off n c : Nat) (h1 : 1 ≤ n) (h2 : n ≤ c) : ∃ A' c', (∀ W, (Instr.slice 75 (.slice (some ⟨g, off, none⟩) n c) (some (.int .i64 1)) none none).run Try.prog W = .ok (.slice A' (n - 1 : Nat) c') W) ∧ (1 < n → A' = some ⟨g, off + 2, none⟩) := by
  by_cases h3 : 1 < c
  · have hI : (1 : Int) < (c : Int) := by omega
    have hJ : (1 : Int) ≤ (n : Int) := by omega
    have hK : (n : Int) ≤ (c : Int) := by omega
    refine ⟨some ⟨g, off + 2, none⟩, c - 1, fun W => ?_, fun _ => rfl⟩
    go_simp
    omega
  · obtain rfl : c = 1 := by omega
    obtain rfl : n = 1 := by omega
    have : ∃ A' c', ∀ W, (Instr.slice 75 (.slice (some ⟨g, off, none⟩) 1 1) (some (.int .i64 1)) none none).run Try.prog W = .ok (.slice A' 0 c') W := by go_simp
    obtain ⟨A', c', h⟩ := this
    exact ⟨A', c', h, fun h => by omega⟩
theorem rdSl_tail {R : World → List Value → Robot → Prop} {w : World} {g off n : Nat} {l : List Robot} (h : RdSl R w (some ⟨g, off, none⟩) n 2 l) (h1 : 1 ≤ n) {A' : Option Addr} (hA : 1 < n → A' = some ⟨g, off + 2, none⟩) : RdSl R w A' (n - 1) 2 (l.drop 1) := by
  have hl : l.length = n := h.len
  obtain ⟨css, fss, h2, h3⟩ := h
  refine ⟨css.drop 1, fss.drop 1, ⟨by simp [h2.1], fun i cs hi => ?_⟩, h3.drop_ 1⟩
  rw [List.getElem?_drop] at hi
  obtain ⟨g', off', hA', hc⟩ := h2.2 _ _ hi
  simp only [Option.some.injEq, Addr.mk.injEq, and_true] at hA'
  obtain ⟨rfl, rfl⟩ := hA'
  have hin : 1 + i < n := by rw [← h2.1]; exact (List.getElem?_eq_some_iff.1 hi).1
  refine ⟨g, off + 2, hA (by omega), fun j v hv => ?_⟩
  have := hc j v hv
  rw [← this]; congr 2; omega
theorem impl_UnionOf_k (v : TV) (t : Team) (w : World) (hm : bulkT t ≤ 1048576) (hok : okT t) (hr : OwT w v t) :
    Calls Try.prog 83 #[vTeam v] w fun e w' => ∃ v' : Sv, e = .returned (.slice v'.A v'.n v'.c) ∧ OwF w' v' (unionOf t) ∧ Fresh w.heap.size w' (fpF v') ∧ Below w.heap.size w w' := by
  have SR := Lib.hid (small_ro hm)
  have HM := Lib.hid hm
  have OK := Lib.hid hok
  have HRT := hr.rd
  have hnc := hr.r.nc
  obtain ⟨⟨Ar, nr, cr⟩, ⟨Ac, nc, cc⟩, fr, fc⟩ := v
  obtain ⟨r0, r1⟩ := HRT
  dsimp only at r0 r1 hnc
  have lr := r0.len
  have NR := Lib.hid (show nr ≤ 1048576 by have := lr.out; unfold bulkT at hm; omega)
  have HRT := Lib.hid hr.rd
  generalize hbt : isTeam t = bt
  have HT := Lib.hid hbt
  clear hbt hm hok hr
  go_enter Try.func83, Try.ntmps83
  go_wp2_with fail
  refine Calls.mono (impl_IsTeam_k ⟨⟨Ar, nr, cr⟩, ⟨Ac, nc, cc⟩, fr, fc⟩ t _ HM.out OK.out ?_) ?_
  · exact RdT.below HRT.out (bAlloc (Below.refl _ _) _)
  rintro e w1 ⟨he, hb1⟩
  rw [HT.out] at he
  subst he
  have H := bTrans (bAlloc (Below.refl w.heap.size w) _) hb1
  have k1 := bBox hb1 w.heap.size (by simp)
  cases bt
  · have hfin := Lib.hid (unionOf_no HT.out)
    go_wp2_with fail
    go_ret
    exact ⟨⟨none, 0, 0⟩, rfl, by rw [hfin.out]; exact Own.nil_ _ _ _ _, Fresh.nil _ _, H⟩
  have hpos := isTeam_pos HT.out
  have hn1 : 1 ≤ nr := by have := lr.out; omega
  have hn3 : nr ≤ 3 := by have := lr.out; omega
  have t0 : w1.cell? ⟨w.heap.size, 0, none⟩ = some (.slice Ar nr cr) := by rw [k1]; simp
  have NR' := NR.out
  have hz1 := cell_lt t0
  dsimp only at hz1
  clear hpos
  obtain ⟨x0, cs0, g0, off0, hx0, hA0, hR0, hc0⟩ := RdSl.at_ (RdSl.below (R := RdRo) RdRo.below r0 H) (show 0 < nr by omega)
  obtain ⟨v0, rfl, hRd0, hLn0⟩ := hR0
  have p0 : w1.cell? ⟨g0, off0, none⟩ = some (.slice v0.A v0.n v0.c) := by simpa using hc0 0 _ rfl
  obtain ⟨hs1, hs2, _⟩ := SR.out x0 (List.mem_of_getElem? hx0.out)
  have hfw0 : fewF x0.factors := hs1
  have HS2 := Lib.hid hs2
  subst hA0
  have hNI : (0 : Int) < (nr : Int) := by omega
  have hNN : 0 < nr := by omega
  have hNE : nr ≠ 0 := by omega
  have hin : UInv t (t.robots.drop 1) x0.factors 0 := by
    unfold UInv
    have e : t.robots = x0 :: t.robots.drop 1 := by have := drop_at (k := 0) hx0; simpa using this
    rw [List.drop_zero, unionOf_cons HT.out e]; rfl
  have hfl0 : isFL x0.factors = true := by
    have h := HT.out
    unfold isTeam at h
    simp only [Bool.and_eq_true, List.all_eq_true] at h
    exact h.2.2.1 x0 (List.mem_of_getElem? hx0.out)
  have HF0 := Lib.hid hfl0
  obtain ⟨A', c', hrun, hA'⟩ := slice1 g0 off0 nr cr hn1 hnc.1
  have HR : Hid (RdSl RdRo w A' (nr - 1) 2 (t.robots.drop 1)) := rdSl_tail r0 hn1 hA'
  have hlen : Hid ((t.robots.drop 1).length = nr - 1) := by have := lr.out; rw [Hid, List.length_drop, this]
  have hmem : Hid (∀ x ∈ t.robots.drop 1, x ∈ t.robots) := fun x h => List.mem_of_mem_drop h
  clear hc0 hs1 hs2 hfl0 hA'
  go_wp2_with fail
  refine Calls.mono (copyFactors_k v0 x0.factors _ hfw0 ?_) ?_
  · exact hRd0
  rintro e w2 ⟨V2, rfl, ho2, hf2, hB0⟩
  have t0' := bCell hB0 t0
  have hup : UPost w w2 V2 x0.factors := ⟨ho2, hf2.rebase H.size, HF0.out, HS2.out⟩
  go_wp2_with fail
  go_loopw [21, 3] (fun i l wr => ∃ (k : Nat) (V : Sv) (L : List Factor), k ≤ (nr - 1) ∧ i = .int .i64 k ∧ l = .slice V.A V.n V.c ∧ UPost w wr V L ∧ UInv t (t.robots.drop 1) L k ∧ Below w1.heap.size w1 wr) (fun i _ _ => (nr - 1) - (intOf i).toNat)
  case atStart => exact ⟨0, V2, x0.factors, by omega, rfl, rfl, hup, hin, hB0⟩
  case round =>
    obtain ⟨k, V, L, hk, rfl, rfl, hup, hi, hb⟩ := hrel
    obtain ⟨wo, rfl⟩ : ∃ wo : World, wo = wr := ⟨_, rfl⟩
    have HB := bTrans H hb
    by_cases hlt : k < (nr - 1)
    · obtain ⟨x, cs, g, off, hx, hAx, hR, hc⟩ := RdSl.at_ (RdSl.below (R := RdRo) RdRo.below HR.out HB) hlt
      obtain ⟨vx, rfl, hRd, hLn⟩ := hR
      have q0 : wo.cell? ⟨g, off + k * 2, none⟩ = some (.slice vx.A vx.n vx.c) := hc 0 _ rfl
      have q1 : wo.cell? ⟨g, off + k * 2 + 1, none⟩ = some (.string x.journal) := hc 1 _ rfl
      clear hc
      subst hAx
      have hVI := hi.step hx
      have lx := hRd.len
      obtain ⟨hs1, hs2, _⟩ := SR.out x (hmem.out x (List.mem_of_getElem? hx.out))
      have hs3 : vx.n ≤ 1048576 := by have := lx.out; omega
      have HS := Lib.hid hs2
      have z0 : (0 : Int) ≤ (k : Int) := by omega
      have z1 : (k : Int) < (((nr - 1) : Nat) : Int) := by omega
      clear hi hs1 hs2
      go_wp2_with fail
      go_loopw [28, 3] (fun i l ww => ∃ (j : Nat) (V : Sv) (L : List Factor), j ≤ vx.n ∧ i = .int .i64 j ∧ l = .slice V.A V.n V.c ∧ UPost w ww V L ∧ VInv t x.factors ((t.robots.drop 1).drop (k + 1)) L j ∧ Below wo.heap.size wo ww) (fun i _ _ => vx.n - (intOf i).toNat)
      case atStart => exact ⟨0, V, L, by omega, rfl, rfl, hup.below (bAlloc (Below.refl _ _) _), hVI, bAlloc (Below.refl _ _) _⟩
      case round =>
        obtain ⟨j, V, L, hj, rfl, rfl, hup, hvi, hb2⟩ := hrel
        by_cases hjl : j < vx.n
        · obtain ⟨f, g3, off3, hf, hA3, c0, c1, c2, c3, c4, c5, c6, c7⟩ := RowF.at_ (Row.below hRd hb2) hjl
          rw [hA3]
          have hnx := hvi.step hf
          have hfs := HS.out f (List.mem_of_getElem? hf.out)
          have HFS := Lib.hid hfs
          have y0 : (0 : Int) ≤ (j : Int) := by omega
          have y1 : (j : Int) < (vx.n : Int) := by omega
          clear hvi hfs
          go_wp2_with fail
          refine Calls.mono (impl_AddFactor_k V L f _ (fewF_FL hup.fl) hup.sm HFS.out (Own.slOk hup.ow) ?_) ?_
          · exact RdF.below hup.ow.rd (bAlloc (Below.refl _ _) _)
          rintro e w5 ⟨v5, rfl, ho5, hf5, hb5⟩
          have HB5 := bTrans (bAlloc hb2 _) hb5
          have hup5 : UPost w w5 v5 (addF L f).1 := ⟨ho5, hf5.rebase (by have := (bTrans HB hb2).size; simp; omega), addF_isFL hup.fl, addF_small hup.sm HFS.out⟩
          go_wp2_with fail
          go_roundw
          case rel => exact ⟨j + 1, v5, _, by omega, by go_num, rfl, hup5, hnx, HB5⟩
          case measure => simp [intOf]; omega
        · have hnx := hvi.done lx hjl
          go_wp2_with fail
          go_roundw
          case rel => exact ⟨k + 1, V, L, by omega, by go_num, rfl, hup, hnx, bTrans hb hb2⟩
          case measure => simp [intOf]; omega
    · have hfin := hi.done hlen hlt
      go_wp2_with fail
      go_ret
      exact ⟨V, rfl, by rw [hfin.out]; exact hup.ow, hup.fr, HB⟩
theorem spec_UnionOf_k (v : TV) (t : Team) (w : World) (hm : bulkT t ≤ 1048576) (hok : okT t) (hr : OwT w v t) :
    Calls Try.prog 82 #[vTeam v] w fun e w' => ∃ v' : Sv, e = .returned (.slice v'.A v'.n v'.c) ∧ OwF w' v' (unionOf t) ∧ Fresh w.heap.size w' (fpF v') ∧ Below w.heap.size w w' := by
  have SR := Lib.hid (small_ro hm)
  have HM := Lib.hid hm
  have OK := Lib.hid hok
  have HRT := hr.rd
  have hnc := hr.r.nc
  obtain ⟨⟨Ar, nr, cr⟩, ⟨Ac, nc, cc⟩, fr, fc⟩ := v
  obtain ⟨r0, r1⟩ := HRT
  dsimp only at r0 r1 hnc
  have lr := r0.len
  have NR := Lib.hid (show nr ≤ 1048576 by have := lr.out; unfold bulkT at hm; omega)
  have HRT := Lib.hid hr.rd
  generalize hbt : isTeam t = bt
  have HT := Lib.hid hbt
  clear hbt hm hok hr
  go_enter Try.func82, Try.ntmps82
  go_wp2_with fail
  refine Calls.mono (spec_IsTeam_k ⟨⟨Ar, nr, cr⟩, ⟨Ac, nc, cc⟩, fr, fc⟩ t _ HM.out OK.out ?_) ?_
  · exact RdT.below HRT.out (bAlloc (Below.refl _ _) _)
  rintro e w1 ⟨he, hb1⟩
  rw [HT.out] at he
  subst he
  have H := bTrans (bAlloc (Below.refl w.heap.size w) _) hb1
  have k1 := bBox hb1 w.heap.size (by simp)
  cases bt
  · have hfin := Lib.hid (unionOf_no HT.out)
    go_wp2_with fail
    go_ret
    exact ⟨⟨none, 0, 0⟩, rfl, by rw [hfin.out]; exact Own.nil_ _ _ _ _, Fresh.nil _ _, H⟩
  have hpos := isTeam_pos HT.out
  have hn1 : 1 ≤ nr := by have := lr.out; omega
  have hn3 : nr ≤ 3 := by have := lr.out; omega
  have t0 : w1.cell? ⟨w.heap.size, 0, none⟩ = some (.slice Ar nr cr) := by rw [k1]; simp
  have NR' := NR.out
  have hz1 := cell_lt t0
  dsimp only at hz1
  clear hpos
  have hin : UInv t t.robots [] 0 := by unfold UInv; rw [unionOf_at HT.out]; rfl
  have hlen := lr
  have HR := Lib.hid r0
  have hmem : Hid (∀ x ∈ t.robots, x ∈ t.robots) := fun x h => h
  go_wp2_with fail
  have hup : UPost w (w1.alloc (.cells #[] 133)) ⟨some ⟨w1.heap.size, 0, none⟩, 0, 0⟩ [] := ⟨(Own.made0 w1 _ 8 (Nat.le_refl _)).zero, ⟨by simp [fpF, obl, ob], fun g hg => by simp [fpF, obl, ob] at hg; have := H.size; omega, fun g hg => by simp [fpF, obl, ob] at hg; subst hg; simp⟩, isFL_nil, fun f hf => by cases hf⟩
  have hB0 : Below w1.heap.size w1 (w1.alloc (.cells #[] 133)) := bAlloc (Below.refl _ _) _
  go_loopw [15, 3] (fun i l wr => ∃ (k : Nat) (V : Sv) (L : List Factor), k ≤ nr ∧ i = .int .i64 k ∧ l = .slice V.A V.n V.c ∧ UPost w wr V L ∧ UInv t t.robots L k ∧ Below w1.heap.size w1 wr) (fun i _ _ => nr - (intOf i).toNat)
  case atStart => exact ⟨0, ⟨some ⟨w1.heap.size, 0, none⟩, 0, 0⟩, [], by omega, rfl, rfl, hup, hin, hB0⟩
  case round =>
    obtain ⟨k, V, L, hk, rfl, rfl, hup, hi, hb⟩ := hrel
    obtain ⟨wo, rfl⟩ : ∃ wo : World, wo = wr := ⟨_, rfl⟩
    have HB := bTrans H hb
    by_cases hlt : k < nr
    · obtain ⟨x, cs, g, off, hx, hAx, hR, hc⟩ := RdSl.at_ (RdSl.below (R := RdRo) RdRo.below HR.out HB) hlt
      obtain ⟨vx, rfl, hRd, hLn⟩ := hR
      have q0 : wo.cell? ⟨g, off + k * 2, none⟩ = some (.slice vx.A vx.n vx.c) := hc 0 _ rfl
      have q1 : wo.cell? ⟨g, off + k * 2 + 1, none⟩ = some (.string x.journal) := hc 1 _ rfl
      clear hc
      subst hAx
      have hVI := hi.step hx
      have lx := hRd.len
      obtain ⟨hs1, hs2, _⟩ := SR.out x (hmem.out x (List.mem_of_getElem? hx.out))
      have hs3 : vx.n ≤ 1048576 := by have := lx.out; omega
      have HS := Lib.hid hs2
      have z0 : (0 : Int) ≤ (k : Int) := by omega
      have z1 : (k : Int) < ((nr : Nat) : Int) := by omega
      clear hi hs1 hs2
      go_wp2_with fail
      go_loopw [22, 3] (fun i l ww => ∃ (j : Nat) (V : Sv) (L : List Factor), j ≤ vx.n ∧ i = .int .i64 j ∧ l = .slice V.A V.n V.c ∧ UPost w ww V L ∧ VInv t x.factors (t.robots.drop (k + 1)) L j ∧ Below wo.heap.size wo ww) (fun i _ _ => vx.n - (intOf i).toNat)
      case atStart => exact ⟨0, V, L, by omega, rfl, rfl, hup.below (bAlloc (Below.refl _ _) _), hVI, bAlloc (Below.refl _ _) _⟩
      case round =>
        obtain ⟨j, V, L, hj, rfl, rfl, hup, hvi, hb2⟩ := hrel
        by_cases hjl : j < vx.n
        · obtain ⟨f, g3, off3, hf, hA3, c0, c1, c2, c3, c4, c5, c6, c7⟩ := RowF.at_ (Row.below hRd hb2) hjl
          rw [hA3]
          have hnx := hvi.step hf
          have hfs := HS.out f (List.mem_of_getElem? hf.out)
          have HFS := Lib.hid hfs
          have y0 : (0 : Int) ≤ (j : Int) := by omega
          have y1 : (j : Int) < (vx.n : Int) := by omega
          clear hvi hfs
          go_wp2_with fail
          refine Calls.mono (spec_AddFactor_k V L f _ (fewF_FL hup.fl) hup.sm HFS.out (Own.slOk hup.ow) ?_) ?_
          · exact RdF.below hup.ow.rd (bAlloc (Below.refl _ _) _)
          rintro e w5 ⟨v5, rfl, ho5, hf5, hb5⟩
          have HB5 := bTrans (bAlloc hb2 _) hb5
          have hup5 : UPost w w5 v5 (addF L f).1 := ⟨ho5, hf5.rebase (by have := (bTrans HB hb2).size; simp; omega), addF_isFL hup.fl, addF_small hup.sm HFS.out⟩
          go_wp2_with fail
          go_roundw
          case rel => exact ⟨j + 1, v5, _, by omega, by go_num, rfl, hup5, hnx, HB5⟩
          case measure => simp [intOf]; omega
        · have hnx := hvi.done lx hjl
          go_wp2_with fail
          go_roundw
          case rel => exact ⟨k + 1, V, L, by omega, by go_num, rfl, hup, hnx, bTrans hb hb2⟩
          case measure => simp [intOf]; omega
    · have hfin := hi.done hlen hlt
      go_wp2_with fail
      go_ret
      exact ⟨V, rfl, by rw [hfin.out]; exact hup.ow, hup.fr, HB⟩
end Go.Proofs.Ytadmeijogbljhaa
