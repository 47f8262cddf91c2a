/- BuildIndex: what the program's answers. -/
import Derived.Test.YtbfajhfmfdiacaaIdxL
import Derived.Test.YtbfajhfmfdiacaaTake
namespace Go.Proofs.Ytbfajhfmfdiacaa
open Go.RowKit
set_option linter.unusedVariables false
set_option linter.unusedSimpArgs false
set_option maxHeartbeats 1600000
set_option maxRecDepth 100000
theorem one_L {l : List PlaceEntry} : ∀ cs ∈ l.map PlaceEntry.cells, cs.length = 3 := fun cs h => by obtain ⟨f, _, rfl⟩ := List.mem_map.1 h; rfl
theorem cell_L {l : List PlaceEntry} : ∀ cs ∈ l.map PlaceEntry.cells, ∀ u ∈ cs, u.oneCell' = true := fun cs h => by obtain ⟨f, _, rfl⟩ := List.mem_map.1 h; exact one_of rfl
theorem one_Pl {l : List Place} : ∀ cs ∈ l.map Place.cells, cs.length = 2 := fun cs h => by obtain ⟨f, _, rfl⟩ := List.mem_map.1 h; rfl
theorem cell_Pl {l : List Place} : ∀ cs ∈ l.map Place.cells, ∀ u ∈ cs, u.oneCell' = true := fun cs h => by obtain ⟨f, _, rfl⟩ := List.mem_map.1 h; exact one_of rfl
theorem Upd.grown_hi {fs : List Nat} {a b c : World} {row : Option Nat} (h : Upd fs a b) (k : b.grownBy c row) (hr : ∀ q, row = some q → a.heap.size ≤ q) : Upd fs a c :=
  ⟨k.os.trans h.os, k.tape.trans h.tape, k.output.trans h.output, Nat.le_trans h.size k.size, fun i hi hn => (k.block i (Nat.lt_of_lt_of_le hi h.size) (fun e => by have := hr i e.symm; omega)).trans (h.block i hi hn)⟩
theorem part_take {k : Int} {l : List Place} {j : Nat} {p : Place} (h : Hid (l[j]? = some p)) : part k 0 (l.take (j + 1)) = part k 0 (l.take j) ++ [⟨k, chunkV p.bits k, (j : Nat)⟩] := by
  obtain ⟨hj, rfl⟩ := List.getElem?_eq_some_iff.1 h.out
  rw [List.take_succ_eq_append_getElem hj, part_snoc]
  congr 4
  simp only [List.length_take]; omega
theorem part_snoc_own {w : World} {B n c : Nat} {k : Int} {l : List Place} {j : Nat} {p : Place} {A : Option Addr} (h : Hid (l[j]? = some p)) (ho : Own w B 73 3 A n c ((part k 0 (l.take j)).map PlaceEntry.cells ++ [[.int .i64 k, .int .i64 (chunkV p.bits k), .int .i64 (j : Nat)]])) :
    Own w B 73 3 A n c ((part k 0 (l.take (j + 1))).map PlaceEntry.cells) := by rw [part_take h, List.map_append]; exact ho
theorem part_all {w : World} {B n c : Nat} {k : Int} {l : List Place} {A : Option Addr} {m : Nat} (hl : Hid (l.length = m)) (ho : Own w B 73 3 A n c ((part k 0 (l.take m)).map PlaceEntry.cells)) :
    Own w B 73 3 A n c ((part k 0 l).map PlaceEntry.cells) := by
  have : l.take m = l := List.take_of_length_le (by have := hl.out; omega)
  rwa [this] at ho
theorem idx_out {w W0 wr X : World} {xb n c3 m c : Nat} {A3 A : Option Addr} {l : List Place} {es : List PlaceEntry} (hB0 : Below w.heap.size w W0) (hsW : W0.heap.size = xb + 1) (hP : Own W0 (w.heap.size + 1) 71 2 A3 n c3 (l.map Place.cells)) (hP2 : ∀ q ∈ obl A3, q < xb) (hxb : w.heap.size < xb)
    (ho : Own wr (xb + 1) 73 3 A m c (es.map PlaceEntry.cells)) (hup : Upd [xb] W0 wr) (uS : Upd [w.heap.size] wr X) :
    OwX X ⟨⟨A3, n, c3⟩, ⟨A, m, c⟩⟩ ⟨l, es⟩ ∧ Fresh w.heap.size X (fpX ⟨⟨A3, n, c3⟩, ⟨A, m, c⟩⟩) ∧ Below w.heap.size w X := by
  have hP3 := (hP.upd hup (fun q hq hm => by have := hP2 q hq; simp at hm; omega))
  have hf3 := Fresh.obl_ hP
  have hP4 := hP3.upd uS (fun q hq hm => by have := hf3.lo q hq; simp at hm; omega)
  have hfo := Fresh.obl_ ho
  have ho4 := ho.upd uS (fun q hq hm => by have := hfo.lo q hq; simp at hm; omega)
  refine ⟨⟨hP4.zero, ho4.zero⟩, ?_, bUpd (bUpd hB0 hup (fun q hq => by simp at hq; omega)) uS (fun q hq => by simp at hq; omega)⟩
  exact Fresh.append ((Fresh.obl_ hP4).rebase (by omega)) (Fresh.obl_ ho4) (by omega) (fun q hq => by have := hP2 q hq; omega)
theorem BuildIndex1_c (x y : PlaceEntry) (w : World) : Calls Try.prog 36 #[vPlaceEntry x.chunk x.key x.place, vPlaceEntry y.chunk y.key y.place] w fun e w' => e = rInt (cmpI x.key y.key) ∧ Below w.heap.size w w' := by
  go_enter Try.func36, Try.ntmps36
  go_wp2_with fail
  refine Calls.mono (cmp_Compare_c _ _ _) ?_
  rintro e w1 ⟨rfl, rfl⟩
  go_wp2_with fail
  go_ret
  exact ⟨rfl, by repeat (first | with_reducible exact Below.refl _ _ | with_reducible refine bAlloc ?_ _)⟩
theorem impl_BuildIndex_kk (v : Sv) (l : List Place) (w : World) (hm : v.n ≤ 1048576) (ho : OwP w v l) (hs : ∀ p ∈ l, p.name.size ≤ 1048576) :
    Calls Try.prog 14 #[.slice v.A v.n v.c] w fun e w' => ∃ v' : XV, e = .returned (.tuple #[vPIdx v', .bool (buildIdx l).2]) ∧ OwX w' v' (buildIdx l).1 ∧ Fresh w.heap.size w' (fpX v') ∧ Below w.heap.size w w' := by
  obtain ⟨A, n, c⟩ := v
  have hr : RowP w A n l := Own.row ho
  have hl : Hid (l.length = n) := hr.len
  clear ho
  obtain ⟨i0, hi, hz0, hz1, hz2⟩ := info_parts info_Place
  obtain ⟨j0, hj, hy0, hy1, hy2⟩ := info_parts info_PlaceEntry
  generalize hv : isPL l = b
  have HV := Lib.hid hv
  clear hv
  go_enter Try.func14, Try.ntmps14
  go_wp2_with fail
  refine Calls.mono (impl_IsPlaceList_c A n c l _ hm (Row.below hr (bAlloc (Below.refl _ _) _)) hs) ?_
  rintro e w1 ⟨he, hb1⟩
  rw [HV.out] at he
  subst he
  have H := bTrans (bAlloc (Below.refl w.heap.size w) _) hb1
  have hz1' : w.heap.size < w1.heap.size := by have := hb1.size; simp at this; omega
  have k1 := bBox hb1 w.heap.size (by simp)
  have f1 := bBoxF hb1 w.heap.size (by simp)
  cases b
  · have hfin := Lib.hid (buildIdx_no HV.out)
    go_wp2_with fail
    refine bodyPost_ret (v := .tuple #[vPIdx ⟨⟨none, 0, 0⟩, ⟨none, 0, 0⟩⟩, .bool false]) (by simp [*, results, Try.results14, go_sem]) rfl ?_
    rw [hfin.out]
    exact ⟨_, rfl, nilX _, Fresh.nil _ _, by repeat (first | with_reducible exact H | (with_reducible refine bSet ?_ ?_ _; rotate_left; simp))⟩
  have hfin := Lib.hid (buildIdx_yes HV.out)
  have hn16 : n ≤ 16 := by have h1 := isPL_len HV.out; have h2 := hl.out; omega
  go_wp2_with (at_builtin; refine wpList_append rfl (.tmp 13) (.tmp 14) 36 rfl w1.heap.size 71 2 24 i0 _ Try.underlying36 hi hz0 hz1 hz2 rfl (by omega) (some ⟨w1.heap.size, 0, none⟩) 0 0 [] rfl (Own.made0 w1 _ 2 (Nat.le_refl _)) A n c (l.map Place.cells) rfl (Row.below hr (bAlloc H _)) one_Pl cell_Pl (by simp only [maxLen]; omega) (by omega) (by simp) ?_; intro A3 c3 w3 ho3 hg3 hat3; simp only [Nat.zero_add, List.nil_append] at ho3 ⊢; have hz3 : w1.heap.size < w3.heap.size := (by have := hg3.size; simp at this; omega); have k3 := gBox hg3 w.heap.size (by simp; omega) (fun q hq => by simp [ob] at hq; omega); have f3 := gBoxF hg3 w.heap.size (by simp; omega) (fun q hq => by simp [ob] at hq; omega); have hzz : w.heap.size < w3.heap.size := (by omega))
  have H3 : Below w.heap.size w w3 := bGrown (bAlloc H _) hg3 (fun q hq => by simp [ob] at hq; omega)
  obtain ⟨xb, hxb⟩ : ∃ xb, w3.heap.size = xb := ⟨_, rfl⟩
  obtain ⟨W0, hW0⟩ : ∃ W0 : World, W0 = w3.alloc (.cells #[.slice A3 n c3, .slice none 0 0] 42) := ⟨_, rfl⟩
  have hsW : W0.heap.size = xb + 1 := by rw [hW0]; simp [hxb]
  have a0 : W0.cell? ⟨xb, 0, none⟩ = some (.slice A3 n c3) := by rw [hW0, ← hxb]; simp
  have a1 : W0.cell? ⟨xb, 1, none⟩ = some (.slice none 0 0) := by rw [hW0, ← hxb]; simp
  have a2 : ∀ o, W0.frozen? ⟨xb, o, none⟩ = false := fun o => by rw [hW0, ← hxb]; simp
  have hB0 : Below w.heap.size w W0 := by rw [hW0]; exact bAlloc H3 _
  have hP2 : Hid (∀ q ∈ obl A3, q < xb) := fun q hq => by have := (ho3.lt q (mem_obl.1 hq)).2; omega
  have hP0 : Hid (Own W0 (w.heap.size + 1) 71 2 A3 n c3 (l.map Place.cells)) := by
    have h1 : Own w3 (w.heap.size + 1) 71 2 A3 n c3 (l.map Place.cells) := ho3.rebase (by omega)
    rw [hW0]; exact h1.alloc_ _
  have b0 : ∀ o, W0.cell? ⟨w.heap.size, o, none⟩ = w3.cell? ⟨w.heap.size, o, none⟩ := fun o => by rw [hW0]; exact (bBox (bAlloc (Below.refl _ _) _) w.heap.size hzz o)
  have b1 : ∀ o, W0.frozen? ⟨w.heap.size, o, none⟩ = w3.frozen? ⟨w.heap.size, o, none⟩ := fun o => by rw [hW0]; exact (bBoxF (bAlloc (Below.refl _ _) _) w.heap.size hzz o)
  have hwx : w.heap.size < xb := by omega
  rw [← hW0, hxb]
  clear hW0 hat3 HV
  go_loopw [5] (fun i wr => ∃ (K : Nat) (E : Option Addr) (m ce : Nat), K ≤ 3 ∧ i = .int .i64 K ∧ m ≤ 16 * K ∧ wr.cell? ⟨xb, 0, none⟩ = some (.slice A3 n c3) ∧ wr.cell? ⟨xb, 1, none⟩ = some (.slice E m ce) ∧ Own wr (xb + 1) 73 3 E m ce ((ents l K).map PlaceEntry.cells) ∧ Upd [xb] W0 wr ∧ ∀ o, wr.frozen? ⟨xb, o, none⟩ = false) (fun i _ => 3 - (intOf i).toNat)
  case atStart => exact ⟨0, none, 0, 0, by omega, rfl, by omega, a0, a1, Own.nil_ _ _ _ _, Upd.refl _ _, a2⟩
  case round =>
    obtain ⟨K, E, m, ce, hK, rfl, hm16, t0, t1, hoE, hup, tf⟩ := hrel
    have hsr := hup.size
    have hzr : xb < wr.heap.size := by omega
    by_cases hlt : K < 3
    · obtain ⟨wo, hwo⟩ : ∃ wo : World, wo = wr := ⟨_, rfl⟩
      subst hwo
      have HUP := Lib.hid hup
      have hrA : Hid (RowP wo A n l) := Row.below hr (bUpd hB0 hup (fun q hq => by simp at hq; omega))
      clear hup
      have hKI : (K : Int) < 3 := by omega
      have hKd : decide ((K : Int) < 3) = true := decide_eq_true hKI
      go_wp2_with fail
      go_loopw [24, 6] (fun i pv wr => ∃ (j g cg : Nat), j ≤ n ∧ i = .int .i64 j ∧ pv = .slice (some ⟨g, 0, none⟩) j cg ∧ Own wr wo.heap.size 73 3 (some ⟨g, 0, none⟩) j cg ((part K 0 (l.take j)).map PlaceEntry.cells) ∧ Below wo.heap.size wo wr) (fun i _ _ => n - (intOf i).toNat)
      case atStart => exact ⟨0, _, 0, by omega, rfl, rfl, Own.made0 wo _ 3 (Nat.le_refl _), bAlloc (Below.refl _ _) _⟩
      case round =>
        obtain ⟨j, g, cg, hjn, rfl, rfl, hoP, hbo⟩ := hrel
        have hzo := hbo.size
        have hgo := (hoP.lt g rfl).1
        by_cases hj1 : j < n
        · obtain ⟨p, ga, offa, hp, rfl, p0, p1⟩ := RowP.at_ (Row.below hrA.out hbo) hj1
          go_wp2_with (first
            | (go_at_call 34; refine (impl_ChunkOf_c _ _ _).mono ?_; rintro e w5 ⟨rfl, rfl⟩)
            | (at_builtin; refine wpList_append rfl (.tmp 29) (.tmp 37) 40 rfl wo.heap.size 73 3 24 j0 _ Try.underlying40 hj hy0 hy1 hy2 rfl (by omega) (some ⟨g, 0, none⟩) j cg ((part K 0 (l.take j)).map PlaceEntry.cells) rfl ((hoP.alloc_ _).alloc_ _) _ 1 1 [[.int .i64 (K : Int), .int .i64 (chunkV p.bits K), .int .i64 (j : Int)]] rfl (Row.new1' _ _ [.int .i64 (K : Int), .int .i64 (chunkV p.bits K), .int .i64 (j : Int)] 3 _ (by simp)) (by simp) (by simp [Value.oneCell']) (by simp only [maxLen]; omega) (by omega) (by simp; omega) ?_; intro A5 c5 w5 ho5 hg5 hat5))
          have hB5 : Below wo.heap.size wo w5 := bGrown (bAlloc (bAlloc hbo _) _) hg5 (fun q hq => by simp [ob] at hq; omega)
          have ho6 := part_snoc_own hp ho5
          go_roundw
          case rel =>
            rcases ho6.cases with ⟨_, h5, _⟩ | ⟨g5, rfl, _⟩
            · omega
            · exact ⟨j + 1, g5, c5, by omega, by go_num, rfl, ho6, hB5⟩
          case measure => simp [intOf]; omega
        · obtain rfl : j = n := by omega
          have hoP := part_all hl hoP
          clear hjn hj1
          go_wp2_with fail
          refine Calls.mono (sortStable_PE g j cg (part K 0 l) PlaceEntry.key _ (by omega) hoP.zero (fun wz _ x _ y _ => BuildIndex1_c x y wz)) ?_
          rintro e w4 ⟨rfl, ho4, hu4⟩
          have hB4 : Below wo.heap.size wo w4 := bUpd hbo hu4 (fun q hq => by simp at hq; omega)
          have t0' := bCell hB4 t0
          have t1' := bCell hB4 t1
          have tf' : ∀ o, w4.frozen? ⟨xb, o, none⟩ = false := fun o => (bBoxF hB4 xb hzr o).trans (tf o)
          have hzx : xb < w4.heap.size := by have := hB4.size; omega
          have hEq : Hid (∀ q, ob E = some q → xb + 1 ≤ q) := fun q hq => (hoE.lt q hq).1
          clear t0 t1 tf
          go_wp2_with (at_builtin; refine wpList_append rfl (.tmp 43) (.tmp 44) 40 rfl (xb + 1) 73 3 24 j0 _ Try.underlying40 hj hy0 hy1 hy2 rfl (by omega) E m ce ((ents l K).map PlaceEntry.cells) rfl (hoE.below hB4) (some ⟨g, 0, none⟩) j cg ((srt PlaceEntry.key (part K 0 l)).map PlaceEntry.cells) rfl (Own.row ho4) one_L cell_L (by simp only [maxLen]; omega) (by omega) (by omega) ?_; intro A5 c5 w5 ho5 hg5 hat5; have hzy : xb < w5.heap.size := (by have := hg5.size; omega); have tb0 : w5.cell? ⟨xb, 0, none⟩ = some (.slice A3 j c3) := World.grownBy.cell hg5 t0' (fun e => by have h7 := hEq.out _ e.symm; simp at h7; omega); have tb1 : w5.cell? ⟨xb, 1, none⟩ = some (.slice E m ce) := World.grownBy.cell hg5 t1' (fun e => by have h7 := hEq.out _ e.symm; simp at h7; omega); have tbf : ∀ o, w5.frozen? ⟨xb, o, none⟩ = false := (fun o => (gBoxF hg5 xb hzx (fun q hq => by have := hEq.out q hq; omega) o).trans (tf' o)))
          have hu5 : Upd [xb] W0 w5 := (HUP.out.then_below hB4).grown_hi hg5 (fun q hq => by have := hEq.out q hq; omega)
          have hu6 := hu5.set_in (p := ⟨xb, 1, none⟩) (by simp) (.slice A5 (m + j) c5)
          have ho6 : Own (w5.setCell ⟨xb, 1, none⟩ (.slice A5 (m + j) c5)) (xb + 1) 73 3 A5 (m + j) c5 ((ents l (K + 1)).map PlaceEntry.cells) := by
            rw [ents, List.map_append]
            exact ho5.upd ((Upd.refl [xb] w5).set_in (p := ⟨xb, 1, none⟩) (by simp) (.slice A5 (m + j) c5)) (fun q hq hm => by have := (ho5.lt q (mem_obl.1 hq)).1; simp at hm; omega)
          have tb2 : (w5.setCell ⟨xb, 1, none⟩ (.slice A5 (m + j) c5)).cell? ⟨xb, 0, none⟩ = some (.slice A3 j c3) := by go_simp
          have tb3 : (w5.setCell ⟨xb, 1, none⟩ (.slice A5 (m + j) c5)).cell? ⟨xb, 1, none⟩ = some (.slice A5 (m + j) c5) := by go_simp
          have tbg : ∀ o, (w5.setCell ⟨xb, 1, none⟩ (.slice A5 (m + j) c5)).frozen? ⟨xb, o, none⟩ = false := fun o => by simp [tbf]
          go_roundw
          case rel => exact ⟨K + 1, A5, m + j, c5, by omega, by go_num, by omega, tb2, tb3, ho6, hu6, tbg⟩
          case measure => simp [intOf]; omega
    · obtain rfl : K = 3 := by omega
      have kk0 := uBox hup w.heap.size (by omega) (by simp; omega)
      have kk1 := uBoxF hup w.heap.size (by omega) (by simp; omega)
      have hne : w.heap.size ≠ xb := by omega
      go_wp2_with fail
      refine bodyPost_ret (v := .tuple #[vPIdx ⟨⟨A3, n, c3⟩, ⟨E, m, ce⟩⟩, .bool true]) (by simp [*, results, Try.results14, go_sem]) rfl ?_
      rw [hfin.out]
      exact ⟨_, rfl, idx_out hB0 hsW hP0.out hP2.out hwx hoE hup (((Upd.refl _ _).set_in (by simp) _).set_in (by simp) _)⟩
end Go.Proofs.Ytbfajhfmfdiacaa
