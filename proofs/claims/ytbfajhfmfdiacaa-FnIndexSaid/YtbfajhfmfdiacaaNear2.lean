/- nearPlaces, l26Sort, SearchPlaces, NearestPlace: what the two of each answer. -/
import Derived.Test.YtbfajhfmfdiacaaNear
namespace Go.Proofs.Ytbfajhfmfdiacaa
open Go.RowKit
set_option linter.unusedVariables false
set_option linter.unusedSimpArgs false
set_option maxHeartbeats 1600000
set_option maxRecDepth 100000
theorem okIdx_at {n : Nat} {is : List Int} (h : okIdx n is) {k : Nat} {x : Int} (hx : Hid (is[k]? = some x)) : ∃ m : Nat, x = (m : Int) ∧ m < n := h x (List.mem_of_getElem? hx.out)
theorem filter_take {α : Type} {p : α → Bool} {l : List α} {k : Nat} {x : α} (hx : Hid (l[k]? = some x)) : (l.take (k + 1)).filter p = (l.take k).filter p ++ (if p x then [x] else []) := by
  have h : l[k]? = some x := hx
  obtain ⟨hk, rfl⟩ := List.getElem?_eq_some_iff.1 h
  rw [List.take_succ_eq_append_getElem hk, List.filter_append]
  by_cases hp : p l[k] <;> simp [hp]
theorem nearPlaces_c (vP vI : Sv) (l : List Place) (is : List Int) (bits radius : Int) (w : World) (hn : vP.n ≤ 1048576) (hP : RowP w vP.A vP.n l) (hI : RowI w vI.A vI.n is) (hix : okIdx vP.n is) (h16 : vI.n ≤ 19) :
    Calls Try.prog 38 #[.slice vP.A vP.n vP.c, .slice vI.A vI.n vI.c, .int .i64 bits, .int .i64 radius] w fun e w' => ∃ v' : Sv, e = .returned (.slice v'.A v'.n v'.c) ∧ OwI w' v' (nearOf l bits radius is) ∧ Fresh w.heap.size w' (fpI v') ∧ Below w.heap.size w w' := by
  obtain ⟨i0, hii, hq0, hq1, hq2⟩ := info_parts info_Int_
  obtain ⟨AP, nP, cP⟩ := vP
  obtain ⟨AI, nI, cI⟩ := vI
  dsimp only at hn hP hI hix h16 ⊢
  have hlI := hI.len
  have hmf : ∀ (fn : Fn) (first cap : Array Value) (w : World), (Instr.makeFunc fn first cap).run Try.prog w = .ok (.func fn first cap) w := fun _ _ _ _ => rfl
  have HIX := Lib.hid hix
  clear hix
  go_enter Try.func38, Try.ntmps38
  go_wp2_with fail
  go_loopw [15, 9, 11] (fun i o x11 wr => ∃ (k g n' c' : Nat), k ≤ nI ∧ i = .int .i64 k ∧ o = .slice (some ⟨g, 0, none⟩) n' c' ∧ Own wr (w.heap.size + 2) 3 1 (some ⟨g, 0, none⟩) n' c' (((is.take k).filter fun i => decide (distAt l bits i ≤ radius)).map intCells) ∧ n' ≤ k ∧ wr.cell? ⟨w.heap.size, 0, none⟩ = some (.slice AP nP cP) ∧ wr.cell? ⟨w.heap.size + 1, 0, none⟩ = some (.int .i64 bits) ∧ Below w.heap.size w wr) (fun i _ _ _ => nI - (intOf i).toNat)
  case atStart =>
    refine ⟨0, w.heap.size + 2, 0, 0, by omega, rfl, by first | rfl | (congr 1; simp), ?_, Nat.le_refl _, by first | rfl | go_simp, by first | rfl | go_simp, by repeat (first | exact Below.refl _ _ | refine bAlloc ?_ _)⟩
    exact Own.made' _ _ 1 (by first | omega | (simp; done) | (simp; omega)) (by first | rfl | omega | (simp; done) | (simp; omega))
  case round =>
    obtain ⟨k, g, n', c', hk, rfl, rfl, hown, hn', t0, t1, hb⟩ := hrel
    have hz := cell_lt t1
    dsimp only at hz
    by_cases hlt : k < nI
    · obtain ⟨x, g2, off2, hx, rfl, q0⟩ := RowI.at_ (hI.below hb) hlt
      obtain ⟨m, rfl, hm⟩ := okIdx_at HIX.out hx
      obtain ⟨p, g3, off3, hp, rfl, p0, p1⟩ := RowP.at_ (hP.below hb) hm
      have hft := filter_take (p := fun i => decide (distAt l bits i ≤ radius)) hx
      rw [distAt_at hp] at hft
      have z0 : (0 : Int) ≤ (k : Int) := by omega
      have z1 : (k : Int) < (nI : Int) := by omega
      have z2 : (0 : Int) ≤ (m : Int) := by omega
      have z3 : (m : Int) < (nP : Int) := by omega
      by_cases hd : bitDist p.bits bits ≤ radius
      · have HFT := Lib.hid (hft.trans (by simp [hd] : _ = ((is.take k).filter fun i => decide (distAt l bits i ≤ radius)) ++ [(m : Int)]))
        clear hft
        go_wp2_with fail
        go_quiet (first | (go_at_call 20; refine Calls.quiet_of_same ((impl_BitDistance_c _ _ _).mono fun _ _ h => ⟨h.1, h.2.symm⟩)))
        obtain ⟨wq, hwq⟩ : ∃ wq : World, wr.drewN nq = wq := ⟨_, rfl⟩
        have hownq : Own wq (w.heap.size + 2) 3 1 (some ⟨g, 0, none⟩) n' c' (((is.take k).filter fun i => decide (distAt l bits i ≤ radius)).map intCells) := by rw [← hwq]; exact hown.keep fun _ _ => rfl
        have hbq : Below w.heap.size w wq := by rw [← hwq]; exact bDrewN hb nq
        have t0q : wq.cell? ⟨w.heap.size, 0, none⟩ = some (.slice (some ⟨g3, off3, none⟩) nP cP) := by rw [← hwq]; exact t0
        have t1q : wq.cell? ⟨w.heap.size + 1, 0, none⟩ = some (.int .i64 bits) := by rw [← hwq]; exact t1
        rw [hwq]
        clear hwq
        go_wp2_with (at_builtin; refine wpList_append rfl (.tmp 28) (.tmp 30) 33 rfl (w.heap.size + 2) 3 1 8 i0 _ Try.underlying33 hii hq0 hq1 hq2 rfl (by omega) (some ⟨g, 0, none⟩) n' c' _ rfl (hownq.alloc_ _) _ 1 1 [[.int .i64 (m : Int)]] rfl (Row.new1' _ _ [.int .i64 (m : Int)] 1 _ (by simp)) (by simp) (by simp [Value.oneCell']) (by simp only [maxLen]; omega) (by omega) (by have := cell_lt t1q; dsimp only at this; simp; omega) ?_; intro A3 c3 w3 ho3 hg3 hat3)
        have hgl := (hownq.lt g rfl)
        have hb3 := bGrown (bAlloc hbq _) hg3 (fun q hq => by simp [ob] at hq; omega)
        have t0r : w3.cell? ⟨w.heap.size, 0, none⟩ = some (.slice (some ⟨g3, off3, none⟩) nP cP) := World.grownBy.cell hg3 (bCell (bAlloc (Below.refl _ _) _) t0q) (fun e => by simp [ob] at e; omega)
        have t1r : w3.cell? ⟨w.heap.size + 1, 0, none⟩ = some (.int .i64 bits) := World.grownBy.cell hg3 (bCell (bAlloc (Below.refl _ _) _) t1q) (fun e => by simp [ob] at e; omega)
        obtain ⟨g4, hg4⟩ : ∃ g4, ob A3 = some g4 := by rcases hat3 with h | h <;> exact ⟨_, h⟩
        obtain rfl := own_some ho3 hg4
        go_roundw
        case rel => first | exact ⟨k + 1, g4, n' + 1, c3, by omega, by go_num, rfl, by rw [HFT.out]; simpa [intCells] using ho3, by omega, t0r, t1r, hb3⟩ | ((repeat apply Exists.intro); exact ⟨⟨k + 1, g4, n' + 1, c3, by omega, by go_num, rfl, by rw [HFT.out]; simpa [intCells] using ho3, by omega, t0r, t1r, hb3⟩, rfl⟩)
        case measure => simp [intOf]; omega
      · have HFT := Lib.hid (hft.trans (by simp [hd] : _ = ((is.take k).filter fun i => decide (distAt l bits i ≤ radius))))
        clear hft
        go_wp2_with fail
        go_quiet (first | (go_at_call 20; refine Calls.quiet_of_same ((impl_BitDistance_c _ _ _).mono fun _ _ h => ⟨h.1, h.2.symm⟩)))
        go_wp2_with fail
        have hk2 : Own (wr.drewN nq) (w.heap.size + 2) 3 1 (some ⟨g, 0, none⟩) n' c' (((is.take k).filter fun i => decide (distAt l bits i ≤ radius)).map intCells) := hown.keep fun _ _ => rfl
        go_roundw
        case rel => first | exact ⟨k + 1, g, n', c', by omega, by go_num, rfl, by rw [HFT.out]; exact hk2, by omega, t0, t1, bDrewN hb _⟩ | ((repeat apply Exists.intro); exact ⟨⟨k + 1, g, n', c', by omega, by go_num, rfl, by rw [HFT.out]; exact hk2, by omega, t0, t1, bDrewN hb _⟩, rfl⟩)
        case measure => simp [intOf]; omega
    · have e : is.take k = is := List.take_of_length_le (by have := hlI.out; omega)
      rw [e] at hown
      have hgl := (hown.lt g rfl)
      go_wp2_with fail
      refine Calls.mono (sortStable_int g n' c' (is.filter fun i => decide (distAt l bits i ≤ radius)) (distAt l bits) (.pointer (some ⟨w.heap.size, 0, none⟩)) (.pointer (some ⟨w.heap.size + 1, 0, none⟩)) _ (by omega) hown.zero ?_) ?_
      · intro wr' hu x hx y hy
        obtain ⟨i, rfl, hi⟩ := HIX.out x (List.mem_filter.1 hx).1
        obtain ⟨j, rfl, hj⟩ := HIX.out y (List.mem_filter.1 hy).1
        exact near_cmp i j _ _ AP nP cP l bits wr' hn (hP.below (bUpd hb hu (fun q hq => by simp at hq; omega))) hi hj ((uBox hu w.heap.size (by omega) (by simp; omega) 0).trans t0) ((uBox hu (w.heap.size + 1) (by omega) (by simp; omega) 0).trans t1)
      rintro e w3 ⟨rfl, ho3, hu3⟩
      go_wp2_with fail
      go_ret
      exact ⟨⟨some ⟨g, 0, none⟩, n', c'⟩, rfl, ho3, ⟨by simp [fpI, obl, ob], fun q hq => by simp [fpI, obl, ob] at hq; omega, fun q hq => by simp [fpI, obl, ob] at hq; have := hu3.size; omega⟩, bUpd hb hu3 (fun q hq => by simp at hq; omega)⟩
theorem fewI_search {l : List Place} (bits radius : Int) (h : fewP l) : fewI (searchPl l bits radius) := by have := searchPl_len l bits radius; unfold fewP at h; unfold fewI; omega
def nearestPl (l : List Place) (bits : Int) : Int := match searchPl l bits 30 with
  | [] => -1
  | x :: _ => x
theorem nearestPl_eq (l : List Place) (bits : Int) : nearestPl l bits = match searchPl l bits 30 with
  | [] => -1
  | x :: _ => x := rfl
theorem impl_SearchPlaces_k (v : Sv) (l : List Place) (bits radius : Int) (w : World) (hm : bulkP l ≤ 1048576) (hok : okP l) (hr : OwP w v l) (hwf : (Lit.int .i64 bits).wf = true) (hwf2 : (Lit.int .i64 radius).wf = true) :
    Calls Try.prog 16 #[.slice v.A v.n v.c, .int .i64 bits, .int .i64 radius] w fun e w' => ∃ v' : Sv, e = .returned (.slice v'.A v'.n v'.c) ∧ OwI w' v' (searchPl l bits radius) ∧ Fresh w.heap.size w' (fpI v') ∧ Below w.heap.size w w' := by
  obtain ⟨i0, hii, hq0, hq1, hq2⟩ := info_parts info_Int_
  have hnc := hr.own.nc
  have hl := hr.rd.len
  have hn : v.n ≤ 1048576 := by have := hl.out; unfold bulkP at hm; omega
  have HS := Lib.hid (smallP (l := l) (by unfold bulkP at hm; unfold Hid; omega))
  have HR := Lib.hid hr.rd
  generalize hb1 : isPL l = b1
  generalize hb2 : inR bits 0 1073741823 = b2
  have HB1 := Lib.hid hb1
  have HB2 := Lib.hid hb2
  clear hm hok hwf hwf2 hb1 hb2 hr
  go_enter Try.func16, Try.ntmps16
  go_wp2_with fail
  refine Calls.mono (impl_IsPlaceList_c v.A v.n v.c l _ hn HR.out HS.out) ?_
  rintro e w1 ⟨he, hb1⟩
  rw [HB1.out] at he
  subst he
  have H := hb1
  have hown0 : Own (w1.alloc (.cells #[] 3)) w.heap.size 3 1 (some ⟨w1.heap.size, 0, none⟩) 0 0 [] := Own.made0 w1 _ 1 hb1.size
  cases b1
  · have hfin := Lib.hid (searchPl_no1 (bits := bits) (radius := radius) HB1.out)
    go_wp2_with fail
    go_ret
    exact ⟨⟨none, 0, 0⟩, rfl, by rw [hfin.out]; exact Own.nil_ _ _ _ _, Fresh.nil _ _, H⟩
  cases b2
  · have hfin := Lib.hid (searchPl_no2 (l := l) (radius := radius) HB2.out)
    go_wp2_with (go_at_call 40; refine (areBits_c _ _).mono ?_; rw [HB2.out]; rintro e w2 ⟨rfl, rfl⟩)
    go_ret
    exact ⟨⟨none, 0, 0⟩, rfl, by rw [hfin.out]; exact Own.nil_ _ _ _ _, Fresh.nil _ _, H⟩
  have h16 : v.n ≤ 16 := by have := isPL_len HB1.out; have := hl.out; omega
  have hfin := Lib.hid (searchPl_yes (radius := radius) HB1.out HB2.out)
  have hs1 := H.size
  go_wp2_with (go_at_call 40; refine (areBits_c _ _).mono ?_; rw [HB2.out]; rintro e w2 ⟨rfl, rfl⟩)
  go_loopw [20, 7, 8] (fun i o _ wr => ∃ (k : Nat) (A' : Option Addr) (c' : Nat), k ≤ v.n ∧ i = .int .i64 k ∧ o = .slice A' k c' ∧ Own wr w.heap.size 3 1 A' k c' ((idxs k).map intCells) ∧ Below w.heap.size w wr) (fun i _ _ _ => v.n - (intOf i).toNat)
  case atStart => exact ⟨0, some ⟨w1.heap.size, 0, none⟩, 0, by omega, rfl, rfl, hown0, bAlloc H _⟩
  case round =>
    obtain ⟨k, A', c', hk, rfl, rfl, hown, hb⟩ := hrel
    by_cases hlt : k < v.n
    · go_wp2_with (at_builtin; refine wpList_append rfl (.tmp 23) (.tmp 25) 33 rfl w.heap.size 3 1 8 i0 _ Try.underlying33 hii hq0 hq1 hq2 rfl (by omega) A' k c' _ rfl (hown.alloc_ _) _ 1 1 [[.int .i64 (k : Int)]] rfl (Row.new1' _ _ [.int .i64 (k : Int)] 1 _ (by simp)) (by simp) (by simp [Value.oneCell']) (by simp only [maxLen]; omega) (by omega) (by have := hb.size; simp; omega) ?_; intro A3 c3 w3 ho3 hg3 hat3)
      have hb3 := bGrown (bAlloc hb _) hg3 (fun q hq => (hown.lt q hq).1)
      go_roundw
      case rel => first | exact ⟨k + 1, A3, c3, by omega, by go_num, rfl, by rw [idxs_succ]; simpa [intCells] using ho3, hb3⟩ | ((repeat apply Exists.intro); exact ⟨⟨k + 1, A3, c3, by omega, by go_num, rfl, by rw [idxs_succ]; simpa [intCells] using ho3, hb3⟩, rfl⟩)
      case measure => simp [intOf]; omega
    · obtain rfl : k = v.n := by omega
      go_wp2_with fail
      refine Calls.mono (nearPlaces_c v ⟨A', v.n, c'⟩ l (idxs v.n) bits radius _ hn ?_ ?_ (okIdx_idxs _) (by dsimp only; omega)) ?_
      · exact RdP.below HR.out hb
      · exact hown.row
      rintro e w4 ⟨v4, rfl, ho4, hf4, hb4⟩
      go_wp2_with fail
      go_ret
      exact ⟨v4, rfl, by rw [hfin.out, hl.out]; exact ho4, hf4.rebase hb.size, bTrans hb hb4⟩
theorem impl_NearestPlace_k (v : Sv) (l : List Place) (bits : Int) (w : World) (hm : bulkP l ≤ 1048576) (hok : okP l) (hr : OwP w v l) (hwf : (Lit.int .i64 bits).wf = true) :
    Calls Try.prog 17 #[.slice v.A v.n v.c, .int .i64 bits] w fun e w' => e = rInt (nearestPl l bits) ∧ Below w.heap.size w w' := by
  go_enter Try.func17, Try.ntmps17
  go_wp2_with fail
  refine Calls.mono (impl_SearchPlaces_k v l bits 30 _ hm hok hr hwf (by decide)) ?_
  rintro e w1 ⟨v1, rfl, ho1, hf1, hb1⟩
  have hlen := ho1.rd.len
  have hle := searchPl_len l bits 30
  have hE := Lib.hid (nearestPl_eq l bits)
  obtain ⟨A1, n1, c1⟩ := v1
  dsimp only at hlen
  cases hs : searchPl l bits 30 with
  | nil =>
    rw [hs] at hlen hE
    have h0 : n1 = 0 := hlen.out.symm
    subst h0
    go_wp2_with fail
    go_ret
    exact ⟨by rw [hE.out]; rfl, hb1⟩
  | cons x r =>
    rw [hs] at hlen hE ho1
    have h1 : n1 = r.length + 1 := hlen.out.symm
    have h1p : 0 < n1 := by omega
    have h1e : ¬ n1 = 0 := by omega
    have h1i : (0 : Int) < (n1 : Int) := by omega
    obtain ⟨x', g, off, hx', rfl, q0⟩ := RowI.at_ (RdI.below ho1.rd (Below.refl _ _)) (show 0 < n1 by omega)
    obtain rfl : x = x' := by have := hx'.out; simpa using this
    have q1 : w1.cell? ⟨g, off, none⟩ = some (.int .i64 x) := by simpa using q0
    go_wp2_with fail
    go_ret
    exact ⟨by rw [hE.out]; rfl, hb1⟩
end Go.Proofs.Ytbfajhfmfdiacaa
