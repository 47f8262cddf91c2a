/- BuildIndex: what the reference's answers. -/
import Derived.Test.YtadmeijogbljhaaBuild
import Derived.Test.YtadmeijogbljhaaAdd2
namespace Go.Proofs.Ytadmeijogbljhaa
open Go.RowKit
set_option linter.unusedVariables false
set_option linter.unusedSimpArgs false
set_option maxHeartbeats 1600000
set_option maxRecDepth 100000
theorem l26Less_c (x y : PlaceEntry) (w : World) : Calls Try.prog 134 #[vPlaceEntry x.chunk x.key x.place, vPlaceEntry y.chunk y.key y.place] w fun e w' => e = rBool (decide (ltE x y)) ∧ Below w.heap.size w w' := by
  obtain ⟨a1, a2, a3⟩ := x
  obtain ⟨b1, b2, b3⟩ := y
  by_cases h1 : a1 = b1
  · subst h1
    by_cases h2 : a2 = b2
    · subst h2
      go_enter Try.func134, Try.ntmps134
      go_wp2_with fail
      go_ret
      exact ⟨ret_bool (by simp [ltE]), by repeat (first | with_reducible exact Below.refl _ _ | with_reducible refine bAlloc ?_ _)⟩
    · go_enter Try.func134, Try.ntmps134
      go_wp2_with fail
      go_ret
      exact ⟨ret_bool (by simp [ltE, h2]), by repeat (first | with_reducible exact Below.refl _ _ | with_reducible refine bAlloc ?_ _)⟩
  · go_enter Try.func134, Try.ntmps134
    go_wp2_with fail
    go_ret
    exact ⟨ret_bool (by simp [ltE, h1]), by repeat (first | with_reducible exact Below.refl _ _ | with_reducible refine bAlloc ?_ _)⟩
theorem slice_toE {W : World} {E : Option Addr} {B n c a : Nat} {css : List (List Value)} (h : a ≤ n) (ho : Own W B 160 3 E n c css) : Hid (∀ w, (Instr.slice 89 (.slice E n c) none (some (.int .i64 (a : Int))) none).run Try.prog w = .ok (.slice E a c) w) := by
  intro w
  rcases ho.cases with ⟨rfl, rfl, rfl, _⟩ | ⟨g, rfl, _, _, h1, h2⟩
  · obtain rfl : a = 0 := by omega
    go_simp
  · have hI : (0 : Int) ≤ (a : Int) := by omega
    have hJ : (a : Int) ≤ (c : Int) := by omega
    have hK : (n : Int) ≤ (c : Int) := by omega
    go_simp
theorem slice_fromE {W : World} {E : Option Addr} {B n c a : Nat} {css : List (List Value)} (h : a ≤ n) (ho : Own W B 160 3 E n c css) : ∃ A' c', (∀ w, (Instr.slice 89 (.slice E n c) (some (.int .i64 (a : Int))) none none).run Try.prog w = .ok (.slice A' (n - a : Nat) c') w) ∧ (a < n → ∃ g, E = some ⟨g, 0, none⟩ ∧ A' = some ⟨g, 0 + a * 3, none⟩) := by
  rcases ho.cases with ⟨rfl, rfl, rfl, _⟩ | ⟨g, rfl, _, _, h1, h2⟩
  · obtain rfl : a = 0 := by omega
    have : ∃ A' c', ∀ w, (Instr.slice 89 (.slice none 0 0) (some (.int .i64 (0 : Int))) none none).run Try.prog w = .ok (.slice A' 0 c') w := by go_simp
    obtain ⟨A', c', h⟩ := this
    exact ⟨A', c', h, fun h => by omega⟩
  · have hI : (0 : Int) ≤ (a : Int) := by omega
    have hJ : (a : Int) ≤ (n : Int) := by omega
    have hK : (n : Int) ≤ (c : Int) := by omega
    by_cases h3 : a < c
    · have hL : (a : Int) < (c : Int) := by omega
      refine ⟨some ⟨g, 0 + a * 3, none⟩, c - a, fun w => ?_, fun _ => ⟨g, rfl, rfl⟩⟩
      go_simp
      try omega
    · obtain rfl : a = c := by omega
      obtain rfl : n = a := by omega
      have : ∃ A' c', ∀ w, (Instr.slice 89 (.slice (some ⟨g, 0, none⟩) n n) (some (.int .i64 (n : Int))) none none).run Try.prog w = .ok (.slice A' 0 c') w := by go_simp
      obtain ⟨A', c', h⟩ := this
      exact ⟨A', c', by simpa using h, fun h => by omega⟩
theorem row_from {w : World} {E A' : Option Addr} {n a : Nat} {L : List PlaceEntry} (h : Row w E n 3 (L.map PlaceEntry.cells)) (ha : a ≤ n) (hA : a < n → ∃ g, E = some ⟨g, 0, none⟩ ∧ A' = some ⟨g, 0 + a * 3, none⟩) : Row w A' (n - a) 3 ((L.drop a).map PlaceEntry.cells) := by
  by_cases hlt : a < n
  · obtain ⟨g, rfl, rfl⟩ := hA hlt
    exact Row.drop_ h ha
  · obtain rfl : a = n := by omega
    have hl : L.length = a := h.len
    rw [List.drop_eq_nil_of_le (by omega), Nat.sub_self]
    exact Row.nil_ _ _ _
set_option maxHeartbeats 3200000 in
theorem spec_BuildIndex_kk (v : Sv) (l : List Place) (w : World) (hm : v.n ≤ 1048576) (ho : OwP w v l) (hs : ∀ p ∈ l, p.name.size ≤ 1048576) :
    Calls Try.prog 67 #[.slice v.A v.n v.c] w fun e w' => ∃ v' : XV, e = .returned (.tuple #[vPIdx v', .bool (buildIdx l).2]) ∧ OwX w' v' (buildIdx l).1 ∧ Fresh w.heap.size w' (fpX v') ∧ Below w.heap.size w w' := by
  have HC := Lib.hid (SlOk.nc (Own.slOk ho))
  obtain ⟨A, n, c⟩ := v
  have hr : RowP w A n l := Own.row ho
  have hl : Hid (l.length = n) := hr.len
  clear ho
  obtain ⟨i0, hi, hz0, hz1, hz2⟩ := info_parts info_Place
  obtain ⟨j0, hj, hy0, hy1, hy2⟩ := info_parts info_PlaceEntry
  generalize hv : isPL l = b
  have HV := Lib.hid hv
  clear hv
  go_enter Try.func67, Try.ntmps67
  go_wp2_with fail
  refine Calls.mono (spec_IsPlaceList_c A n c l _ hm HC.out.1 HC.out.2 (Row.below hr (bAlloc (Below.refl _ _) _)) hs) ?_
  rintro e w1 ⟨he, hb1⟩
  rw [HV.out] at he
  subst he
  clear HC
  have H := bTrans (bAlloc (Below.refl w.heap.size w) _) hb1
  have hz1' : w.heap.size < w1.heap.size := by have := hb1.size; simp at this; omega
  have k1 := bBox hb1 w.heap.size (by simp)
  have f1 := bBoxF hb1 w.heap.size (by simp)
  cases b
  · have hfin := Lib.hid (buildIdx_no HV.out)
    go_wp2_with fail
    refine bodyPost_ret (v := .tuple #[vPIdx ⟨⟨none, 0, 0⟩, ⟨none, 0, 0⟩⟩, .bool false]) (by simp [*, results, Try.results67, go_sem]) rfl ?_
    rw [hfin.out]
    exact ⟨_, rfl, nilX _, Fresh.nil _ _, by repeat (first | with_reducible exact H | (with_reducible refine bSet ?_ ?_ _; rotate_left; simp))⟩
  have hfin := Lib.hid (buildIdx_yes HV.out)
  have hn16 : n ≤ 16 := by have h1 := isPL_len HV.out; have h2 := hl.out; omega
  go_wp2_with (at_builtin; refine wpList_append rfl (.tmp 15) (.tmp 16) 58 rfl w1.heap.size 140 2 24 i0 _ Try.underlying58 hi hz0 hz1 hz2 rfl (by omega) (some ⟨w1.heap.size, 0, none⟩) 0 0 [] rfl (Own.made0 w1 _ 2 (Nat.le_refl _)) A n c (l.map Place.cells) rfl (Row.below hr (bAlloc H _)) one_Pl cell_Pl (by simp only [maxLen]; omega) (by omega) (by simp) ?_; intro A3 c3 w3 ho3 hg3 hat3; simp only [Nat.zero_add, List.nil_append] at ho3 ⊢; have hz3 : w1.heap.size < w3.heap.size := (by have := hg3.size; simp at this; omega); have k3 := gBox hg3 w.heap.size (by simp; omega) (fun q hq => by simp [ob] at hq; omega); have f3 := gBoxF hg3 w.heap.size (by simp; omega) (fun q hq => by simp [ob] at hq; omega); have hzz : w.heap.size < w3.heap.size := (by omega))
  have H3 : Below w.heap.size w w3 := bGrown (bAlloc H _) hg3 (fun q hq => by simp [ob] at hq; omega)
  obtain ⟨xb, hxb⟩ : ∃ xb, w3.heap.size = xb := ⟨_, rfl⟩
  obtain ⟨W0, hW0⟩ : ∃ W0 : World, W0 = w3.alloc (.cells #[.slice A3 n c3, .slice none 0 0] 91) := ⟨_, rfl⟩
  have hsW : W0.heap.size = xb + 1 := by rw [hW0]; simp [hxb]
  have a0 : W0.cell? ⟨xb, 0, none⟩ = some (.slice A3 n c3) := by rw [hW0, ← hxb]; simp
  have a1 : W0.cell? ⟨xb, 1, none⟩ = some (.slice none 0 0) := by rw [hW0, ← hxb]; simp
  have a2 : ∀ o, W0.frozen? ⟨xb, o, none⟩ = false := fun o => by rw [hW0, ← hxb]; simp
  have hB0 : Below w.heap.size w W0 := by rw [hW0]; exact bAlloc H3 _
  have hP2 : Hid (∀ q ∈ obl A3, q < xb) := fun q hq => by have := (ho3.lt q (mem_obl.1 hq)).2; omega
  have hP0 : Hid (Own W0 (w.heap.size + 1) 140 2 A3 n c3 (l.map Place.cells)) := by
    have h1 : Own w3 (w.heap.size + 1) 140 2 A3 n c3 (l.map Place.cells) := ho3.rebase (by omega)
    rw [hW0]; exact h1.alloc_ _
  have b0 : ∀ o, W0.cell? ⟨w.heap.size, o, none⟩ = w3.cell? ⟨w.heap.size, o, none⟩ := fun o => by rw [hW0]; exact (bBox (bAlloc (Below.refl _ _) _) w.heap.size hzz o)
  have b1 : ∀ o, W0.frozen? ⟨w.heap.size, o, none⟩ = w3.frozen? ⟨w.heap.size, o, none⟩ := fun o => by rw [hW0]; exact (bBoxF (bAlloc (Below.refl _ _) _) w.heap.size hzz o)
  have hwx : w.heap.size < xb := by omega
  rw [← hW0, hxb]
  clear hW0 hat3 HV
  go_loopw [21] (fun i wr => ∃ (j : Nat) (E : Option Addr) (m ce : Nat), j ≤ n ∧ i = .int .i64 j ∧ m ≤ 3 * j ∧ wr.cell? ⟨xb, 0, none⟩ = some (.slice A3 n c3) ∧ wr.cell? ⟨xb, 1, none⟩ = some (.slice E m ce) ∧ Own wr (xb + 1) 160 3 E m ce ((spT l j).map PlaceEntry.cells) ∧ Upd [xb] W0 wr ∧ ∀ o, wr.frozen? ⟨xb, o, none⟩ = false) (fun i _ => n - (intOf i).toNat)
  case atStart => exact ⟨0, none, 0, 0, by omega, rfl, by omega, a0, a1, Own.nil_ _ _ _ _, Upd.refl _ _, a2⟩
  case round =>
    obtain ⟨j, E, m, ce, hjn, rfl, hm3, t0, t1, hoE, hup, tf⟩ := hrel
    have hsr := hup.size
    have hzr : xb < wr.heap.size := by omega
    by_cases hj1 : j < n
    · have hrA : RowP wr A n l := Row.below hr (bUpd hB0 hup (fun q hq => by simp at hq; omega))
      obtain ⟨p, ga, offa, hp, rfl, p0, p1⟩ := RowP.at_ hrA hj1
      have hjI : (j : Int) < (n : Int) := by omega
      have hjd : decide ((j : Int) < (n : Int)) = true := decide_eq_true hjI
      go_wp2_with fail
      obtain ⟨pb, hpb⟩ : ∃ pb, wr.heap.size = pb := ⟨_, rfl⟩
      obtain ⟨W1, hW1⟩ : ∃ W1 : World, W1 = wr.alloc (.cells #[.string p.name, .int .i64 p.bits] 140) := ⟨_, rfl⟩
      have hb01 : Below wr.heap.size wr W1 := by rw [hW1]; exact bAlloc (Below.refl _ _) _
      have hs1 : W1.heap.size = pb + 1 := by rw [hW1]; simp [hpb]
      have u0 := bCell hb01 t0
      have u1 := bCell hb01 t1
      have uf : ∀ o, W1.frozen? ⟨xb, o, none⟩ = false := fun o => (bBoxF hb01 xb hzr o).trans (tf o)
      have up : W1.cell? ⟨pb, 1, none⟩ = some (.int .i64 p.bits) := by rw [hW1, ← hpb]; simp
      have hup1 := hup.then_below hb01
      have hoE1 := hoE.below hb01
      have HP := Lib.hid hp
      rw [← hW1, hpb]
      clear hW1 hb01 t0 t1 tf hup hoE p0 p1 hrA a0 a1 a2
      go_loopw [7] (fun i wr => ∃ (k : Nat) (E : Option Addr) (m ce : Nat), k ≤ 3 ∧ i = .int .i64 k ∧ m ≤ 3 * j + k ∧ wr.cell? ⟨xb, 0, none⟩ = some (.slice A3 n c3) ∧ wr.cell? ⟨xb, 1, none⟩ = some (.slice E m ce) ∧ Own wr (xb + 1) 160 3 E m ce ((ins3 p.bits j (spT l j) k).map PlaceEntry.cells) ∧ Upd [xb] W0 wr ∧ (∀ o, wr.frozen? ⟨xb, o, none⟩ = false) ∧ wr.cell? ⟨pb, 1, none⟩ = some (.int .i64 p.bits) ∧ pb < wr.heap.size) (fun i _ => 3 - (intOf i).toNat)
      case atStart => exact ⟨0, E, m, ce, by omega, rfl, by omega, u0, u1, hoE1, hup1, uf, up, by omega⟩
      case round =>
        clear u0 u1 uf up hup1 hoE1
        obtain ⟨k, E, m, ce, hk3, rfl, hmk, t0, t1, hoE, hup, tf, tp, hpl⟩ := hrel
        have hsr := hup.size
        by_cases hk1 : k < 3
        · have hkI : (k : Int) < 3 := by omega
          have hkd : decide ((k : Int) < 3) = true := decide_eq_true hkI
          obtain ⟨L, hL⟩ : ∃ L, ins3 p.bits j (spT l j) k = L := ⟨_, rfl⟩
          rw [hL] at hoE
          have HL := Lib.hid hL
          clear hL
          go_wp2_with (go_at_call 133; refine (spec_ChunkOf_c _ _ _).mono ?_; rintro e w5 ⟨rfl, rfl⟩)
          obtain ⟨eb, heb⟩ : ∃ eb, wr.heap.size = eb := ⟨_, rfl⟩
          obtain ⟨W2, hW2⟩ : ∃ W2 : World, W2 = wr.alloc (.cells #[.int .i64 (k : Int), .int .i64 (chunkV p.bits (k : Int)), .int .i64 (j : Int)] 160) := ⟨_, rfl⟩
          have hb02 : Below wr.heap.size wr W2 := by rw [hW2]; exact bAlloc (Below.refl _ _) _
          have hs2 : W2.heap.size = eb + 1 := by rw [hW2]; simp [heb]
          have y0 := bCell hb02 t0
          have y1 := bCell hb02 t1
          have yf : ∀ o, W2.frozen? ⟨xb, o, none⟩ = false := fun o => (bBoxF hb02 xb (by omega) o).trans (tf o)
          have yp := bCell hb02 tp
          have z0 : W2.cell? ⟨eb, 0, none⟩ = some (.int .i64 (k : Int)) := by rw [hW2, ← heb]; simp
          have z1 : W2.cell? ⟨eb, 1, none⟩ = some (.int .i64 (chunkV p.bits (k : Int))) := by rw [hW2, ← heb]; simp
          have z2 : W2.cell? ⟨eb, 2, none⟩ = some (.int .i64 (j : Int)) := by rw [hW2, ← heb]; simp
          have hup2 := hup.then_below hb02
          have hoE2 := hoE.below hb02
          have hx2 : xb < W2.heap.size := by omega
          have hp2 : pb < W2.heap.size := by omega
          have hpx : xb < pb := by omega
          have hLl : Hid (L.length = m) := (Own.row hoE2).len
          rw [← hW2, heb]
          clear hW2 hb02 t0 t1 tf tp hup hoE
          go_loopw [9] (fun i wr => ∃ (a : Nat), a ≤ m ∧ i = .int .i64 a ∧ (∀ i x, i < a → L[i]? = some x → ltE x ⟨(k : Nat), chunkV p.bits (k : Nat), (j : Nat)⟩) ∧ Below W2.heap.size W2 wr) (fun i _ => m - (intOf i).toNat)
          case atStart => exact ⟨0, by omega, rfl, fun i x h => by omega, Below.refl _ _⟩
          case round =>
            obtain ⟨a, ham, rfl, hall, hb3⟩ := hrel
            by_cases ha1 : a < m
            · obtain ⟨x, hX⟩ : ∃ x, L[a]? = some x := ⟨_, List.getElem?_eq_getElem (by have := hLl.out; omega)⟩
              rcases hoE2.cases with ⟨_, h0, _⟩ | ⟨g, rfl, hg1, hg2, _⟩
              · omega
              have hown3 := hoE2.below hb3
              have cx0 : wr.cell? ⟨g, a * 3, none⟩ = some (.int .i64 x.chunk) := own_cells hown3 (by rw [List.getElem?_map, hX]; rfl) 0 _ rfl
              have cx1 : wr.cell? ⟨g, a * 3 + 1, none⟩ = some (.int .i64 x.key) := own_cells hown3 (by rw [List.getElem?_map, hX]; rfl) 1 _ rfl
              have cx2 : wr.cell? ⟨g, a * 3 + 2, none⟩ = some (.int .i64 x.place) := own_cells hown3 (by rw [List.getElem?_map, hX]; rfl) 2 _ rfl
              clear hown3
              by_cases hlt : ltE x ⟨(k : Nat), chunkV p.bits (k : Nat), (j : Nat)⟩
              · have hnx : Hid (∀ i x, i < a + 1 → L[i]? = some x → ltE x ⟨(k : Nat), chunkV p.bits (k : Nat), (j : Nat)⟩) := fun i y hi hy => by
                  by_cases h : i < a
                  · exact hall i y h hy
                  · obtain rfl : i = a := by omega
                    rw [hX] at hy; obtain rfl := Option.some.inj hy; exact hlt
                clear hall hX
                have hV : decide (ltE x ⟨(k : Nat), chunkV p.bits (k : Nat), (j : Nat)⟩) = true := by simpa using hlt
                have HV := Lib.hid hV
                have i0' : (0 : Int) ≤ (a : Int) := by omega
                have i1' : (a : Int) < (m : Int) := by omega
                have hd : decide ((a : Int) < (m : Int)) = true := decide_eq_true i1'
                clear hV hlt
                go_wp2_with fail
                have rc0 := cell_regrown cx0
                have rc1 := cell_regrown cx1
                have rc2 := cell_regrown cx2
                have re0 := cell_regrown (bCell hb3 z0)
                have re1 := cell_regrown (bCell hb3 z1)
                have re2 := cell_regrown (bCell hb3 z2)
                have rx1 := cell_regrown (bCell hb3 y1)
                have cV : ∀ d os, Calls Try.prog 134 #[vPlaceEntry x.chunk x.key x.place, vPlaceEntry (k : Nat) (chunkV p.bits (k : Nat)) (j : Nat)] (Go.Sort.grow (redrawn wr d) os) fun e w2 => e = .returned (.bool true) ∧ ∃ p : Regrown, w2 = Go.Sort.grow (redrawn wr p.d) p.os := fun d os => Calls.regrown_of ((l26Less_c x ⟨(k : Nat), chunkV p.bits (k : Nat), (j : Nat)⟩ _).mono (fun _ _ h => ⟨h.1.trans (congrArg rBool HV.out), h.2⟩))
                refine wp_region_quiet_below (by kernel_rfl) (by kernel_rfl) ?_
                repeat (go_big_quiet_step (first | exact cV _ _))
                refine wpQuiet_nil ?_
                intro _ hw
                obtain ⟨⟨dq, osq⟩, hw⟩ := hw
                subst hw
                obtain ⟨wq, hwq⟩ : ∃ wq : World, Go.Sort.grow (redrawn wr dq) osq = wq := ⟨_, rfl⟩
                have HBq : Below W2.heap.size W2 wq := by rw [← hwq]; exact bTrans hb3 (below_regrown wr dq osq)
                rw [hwq]
                clear hwq cV rc0 rc1 rc2 re0 re1 re2 rx1 cx0 cx1 cx2
                go_wp2_with fail
                go_roundw
                case rel => exact ⟨a + 1, by omega, by go_num, hnx.out, HBq⟩
                case measure => simp [intOf]; omega
              · have HA := Lib.hid (insE_at (a := a) hall (.inr ⟨x, hX, hlt⟩))
                clear hall hX
                have hSt := (slice_toE (n := m) (c := ce) (a := a) ham hoE2).out
                obtain ⟨Af, cf, hSf, hAf⟩ := slice_fromE (n := m) (c := ce) (a := a) ham hoE2
                have hRt := Lib.hid (Row.take_ (Own.row hoE2) ham)
                have hRf := Lib.hid (row_from (Own.row hoE2) ham hAf)
                clear hAf
                have hV : decide (ltE x ⟨(k : Nat), chunkV p.bits (k : Nat), (j : Nat)⟩) = false := by simpa using hlt
                have HV := Lib.hid hV
                have i0' : (0 : Int) ≤ (a : Int) := by omega
                have i1' : (a : Int) < (m : Int) := by omega
                have hd : decide ((a : Int) < (m : Int)) = true := decide_eq_true i1'
                clear hV hlt
                go_wp2_with fail
                have rc0 := cell_regrown cx0
                have rc1 := cell_regrown cx1
                have rc2 := cell_regrown cx2
                have re0 := cell_regrown (bCell hb3 z0)
                have re1 := cell_regrown (bCell hb3 z1)
                have re2 := cell_regrown (bCell hb3 z2)
                have rx1 := cell_regrown (bCell hb3 y1)
                have cV : ∀ d os, Calls Try.prog 134 #[vPlaceEntry x.chunk x.key x.place, vPlaceEntry (k : Nat) (chunkV p.bits (k : Nat)) (j : Nat)] (Go.Sort.grow (redrawn wr d) os) fun e w2 => e = .returned (.bool false) ∧ ∃ p : Regrown, w2 = Go.Sort.grow (redrawn wr p.d) p.os := fun d os => Calls.regrown_of ((l26Less_c x ⟨(k : Nat), chunkV p.bits (k : Nat), (j : Nat)⟩ _).mono (fun _ _ h => ⟨h.1.trans (congrArg rBool HV.out), h.2⟩))
                refine wp_region_quiet_below (by kernel_rfl) (by kernel_rfl) ?_
                repeat (go_big_quiet_step (first | exact cV _ _))
                refine wpQuiet_nil ?_
                intro _ hw
                obtain ⟨⟨dq, osq⟩, hw⟩ := hw
                subst hw
                obtain ⟨wq, hwq⟩ : ∃ wq : World, Go.Sort.grow (redrawn wr dq) osq = wq := ⟨_, rfl⟩
                have HBq : Below W2.heap.size W2 wq := by rw [← hwq]; exact bTrans hb3 (below_regrown wr dq osq)
                rw [hwq]
                clear hwq cV rc0 rc1 rc2 re0 re1 re2 rx1 cx0 cx1 cx2
                have x0 := bCell HBq y0
                have x1 := bCell HBq y1
                have e0 := bCell HBq z0
                have e1 := bCell HBq z1
                have e2 := bCell HBq z2
                have hzq : W2.heap.size ≤ wq.heap.size := HBq.size
                have hxq : xb < wq.heap.size := by omega
                have heq : eb < wq.heap.size := by omega
                go_wp2_with (first
                  | (at_builtin; refine wpList_append rfl (.tmp 53) (.tmp 57) 89 rfl W2.heap.size 160 3 24 j0 _ Try.underlying89 hj hy0 hy1 hy2 rfl (by omega) (some ⟨wq.heap.size, 0, none⟩) 0 0 [] rfl (made_any wq _ _ 3 rfl hzq) _ a _ ((L.take a).map PlaceEntry.cells) rfl (Row.below (hRt.out) (bAlloc HBq _)) one_L cell_L (by simp only [maxLen]; omega) (by omega) (by simp; omega) ?_; intro A4 c4 w4 ho4 hg4 hat4; simp only [Nat.zero_add, List.nil_append] at ho4 ⊢; have HB4 := bGrown (bAlloc HBq _) hg4 (fun q hq => by simp [ob] at hq; omega); have q0 := bCell HB4 z0; have q1 := bCell HB4 z1; have q2 := bCell HB4 z2; have hx4 : xb < w4.heap.size := (by have h9 := HB4.size; omega); have he4 : eb < w4.heap.size := (by have h9 := HB4.size; omega))
                  | (at_builtin; refine wpList_append rfl (.tmp 59) (.tmp 61) 89 rfl W2.heap.size 160 3 24 j0 _ Try.underlying89 hj hy0 hy1 hy2 rfl (by omega) A4 a c4 _ rfl (ho4.alloc_ _) _ 1 1 [PlaceEntry.cells ⟨(k : Nat), chunkV p.bits (k : Nat), (j : Nat)⟩] rfl (Row.new1' _ _ _ 3 _ (by simp)) (by simp [PlaceEntry.cells]) (by simp [PlaceEntry.cells, Value.oneCell']) (by simp only [maxLen]; omega) (by omega) (by have h9 := HB4.size; simp; omega) ?_; intro A5 c5 w5 ho5 hg5 hat5; have HB5 := bGrown (bAlloc HB4 _) hg5 (fun q hq => by have h9 := (ho4.lt q hq).1; omega); have r1 := bCell HB5 y1; have hx5 : xb < w5.heap.size := (by have h9 := HB5.size; omega))
                  | (at_builtin; refine wpList_append rfl (.tmp 63) (.tmp 67) 89 rfl W2.heap.size 160 3 24 j0 _ Try.underlying89 hj hy0 hy1 hy2 rfl (by omega) A5 (a + 1) c5 _ rfl ho5 _ (m - a) _ ((L.drop a).map PlaceEntry.cells) rfl (Row.below hRf.out HB5) one_L cell_L (by simp only [maxLen]; omega) (by omega) HB5.size ?_; intro A6 c6 w6 ho6 hg6 hat6; have HB6 := bGrown HB5 hg6 (fun q hq => by have h9 := (ho5.lt q hq).1; omega); have s0 := bCell HB6 y0; have s1 := bCell HB6 y1; have sf : ∀ o, w6.frozen? ⟨xb, o, none⟩ = false := (fun o => (bBoxF HB6 xb hx2 o).trans (yf o)); have hx6 : xb < w6.heap.size := (by have h9 := HB6.size; omega)))
                have HN : Hid (a + 1 + (m - a) = m + 1) := by show a + 1 + (m - a) = m + 1; omega
                rw [HN.out] at ho6 ⊢
                have ho7 : Own w6 (xb + 1) 160 3 A6 (m + 1) c6 ((ins3 p.bits j (spT l j) (k + 1)).map PlaceEntry.cells) := by
                  rw [ins3, HL.out, HA.out]
                  simp only [List.map_append, List.map_cons, List.append_assoc, List.singleton_append] at ho6 ⊢
                  exact ho6.rebase (by omega)
                have uS : Upd [xb] w6 (w6.setCell ⟨xb, 1, none⟩ (.slice A6 (m + 1) c6)) := (Upd.refl [xb] w6).set_in (p := ⟨xb, 1, none⟩) (by simp) _
                have hu7 := (hup2.then_below HB6).trans uS
                have ho8 := ho7.upd uS (fun q hq hm => by have := (ho7.lt q (mem_obl.1 hq)).1; simp at hm; omega)
                have tb2 : (w6.setCell ⟨xb, 1, none⟩ (.slice A6 (m + 1) c6)).cell? ⟨xb, 0, none⟩ = some (.slice A3 n c3) := by go_simp
                have tb3 : (w6.setCell ⟨xb, 1, none⟩ (.slice A6 (m + 1) c6)).cell? ⟨xb, 1, none⟩ = some (.slice A6 (m + 1) c6) := by go_simp
                have tbg : ∀ o, (w6.setCell ⟨xb, 1, none⟩ (.slice A6 (m + 1) c6)).frozen? ⟨xb, o, none⟩ = false := fun o => by simp [sf]
                have tbp : (w6.setCell ⟨xb, 1, none⟩ (.slice A6 (m + 1) c6)).cell? ⟨pb, 1, none⟩ = some (.int .i64 p.bits) := (uBox uS pb (by have h9 := HB6.size; omega) (by simp; omega) 1).trans (bCell HB6 yp)
                go_roundw
                case rel => exact ⟨k + 1, A6, m + 1, c6, by omega, by go_num, by omega, tb2, tb3, ho8, hu7, tbg, tbp, by have h9 := HB6.size; simp; omega⟩
                case measure => simp [intOf]; omega
            · have hae : a = m := by omega
              have HA := Lib.hid (insE_at (a := a) hall (.inl (hae.trans hLl.out.symm)))
              clear hall
              have hSt := (slice_toE (n := m) (c := ce) (a := a) ham hoE2).out
              obtain ⟨Af, cf, hSf, hAf⟩ := slice_fromE (n := m) (c := ce) (a := a) ham hoE2
              have hRt := Lib.hid (Row.take_ (Own.row hoE2) ham)
              have hRf := Lib.hid (row_from (Own.row hoE2) ham hAf)
              clear hAf
              have hdI : ¬ (a : Int) < (m : Int) := by omega
              have hd : decide ((a : Int) < (m : Int)) = false := decide_eq_false hdI
              clear hae
              go_wp2_with fail
              have rx1 := cell_regrown (bCell hb3 y1)
              refine wp_region_quiet_below (by kernel_rfl) (by kernel_rfl) ?_
              repeat (go_big_quiet_step (fail))
              refine wpQuiet_nil ?_
              intro _ hw
              obtain ⟨⟨dq, osq⟩, hw⟩ := hw
              subst hw
              obtain ⟨wq, hwq⟩ : ∃ wq : World, Go.Sort.grow (redrawn wr dq) osq = wq := ⟨_, rfl⟩
              have HBq : Below W2.heap.size W2 wq := by rw [← hwq]; exact bTrans hb3 (below_regrown wr dq osq)
              rw [hwq]
              clear hwq rx1
              have x0 := bCell HBq y0
              have x1 := bCell HBq y1
              have e0 := bCell HBq z0
              have e1 := bCell HBq z1
              have e2 := bCell HBq z2
              have hzq : W2.heap.size ≤ wq.heap.size := HBq.size
              have hxq : xb < wq.heap.size := by omega
              have heq : eb < wq.heap.size := by omega
              go_wp2_with (first
                | (at_builtin; refine wpList_append rfl (.tmp 53) (.tmp 57) 89 rfl W2.heap.size 160 3 24 j0 _ Try.underlying89 hj hy0 hy1 hy2 rfl (by omega) (some ⟨wq.heap.size, 0, none⟩) 0 0 [] rfl (made_any wq _ _ 3 rfl hzq) _ a _ ((L.take a).map PlaceEntry.cells) rfl (Row.below (hRt.out) (bAlloc HBq _)) one_L cell_L (by simp only [maxLen]; omega) (by omega) (by simp; omega) ?_; intro A4 c4 w4 ho4 hg4 hat4; simp only [Nat.zero_add, List.nil_append] at ho4 ⊢; have HB4 := bGrown (bAlloc HBq _) hg4 (fun q hq => by simp [ob] at hq; omega); have q0 := bCell HB4 z0; have q1 := bCell HB4 z1; have q2 := bCell HB4 z2; have hx4 : xb < w4.heap.size := (by have h9 := HB4.size; omega); have he4 : eb < w4.heap.size := (by have h9 := HB4.size; omega))
                | (at_builtin; refine wpList_append rfl (.tmp 59) (.tmp 61) 89 rfl W2.heap.size 160 3 24 j0 _ Try.underlying89 hj hy0 hy1 hy2 rfl (by omega) A4 a c4 _ rfl (ho4.alloc_ _) _ 1 1 [PlaceEntry.cells ⟨(k : Nat), chunkV p.bits (k : Nat), (j : Nat)⟩] rfl (Row.new1' _ _ _ 3 _ (by simp)) (by simp [PlaceEntry.cells]) (by simp [PlaceEntry.cells, Value.oneCell']) (by simp only [maxLen]; omega) (by omega) (by have h9 := HB4.size; simp; omega) ?_; intro A5 c5 w5 ho5 hg5 hat5; have HB5 := bGrown (bAlloc HB4 _) hg5 (fun q hq => by have h9 := (ho4.lt q hq).1; omega); have r1 := bCell HB5 y1; have hx5 : xb < w5.heap.size := (by have h9 := HB5.size; omega))
                | (at_builtin; refine wpList_append rfl (.tmp 63) (.tmp 67) 89 rfl W2.heap.size 160 3 24 j0 _ Try.underlying89 hj hy0 hy1 hy2 rfl (by omega) A5 (a + 1) c5 _ rfl ho5 _ (m - a) _ ((L.drop a).map PlaceEntry.cells) rfl (Row.below hRf.out HB5) one_L cell_L (by simp only [maxLen]; omega) (by omega) HB5.size ?_; intro A6 c6 w6 ho6 hg6 hat6; have HB6 := bGrown HB5 hg6 (fun q hq => by have h9 := (ho5.lt q hq).1; omega); have s0 := bCell HB6 y0; have s1 := bCell HB6 y1; have sf : ∀ o, w6.frozen? ⟨xb, o, none⟩ = false := (fun o => (bBoxF HB6 xb hx2 o).trans (yf o)); have hx6 : xb < w6.heap.size := (by have h9 := HB6.size; omega)))
              have HN : Hid (a + 1 + (m - a) = m + 1) := by show a + 1 + (m - a) = m + 1; omega
              rw [HN.out] at ho6 ⊢
              have ho7 : Own w6 (xb + 1) 160 3 A6 (m + 1) c6 ((ins3 p.bits j (spT l j) (k + 1)).map PlaceEntry.cells) := by
                rw [ins3, HL.out, HA.out]
                simp only [List.map_append, List.map_cons, List.append_assoc, List.singleton_append] at ho6 ⊢
                exact ho6.rebase (by omega)
              have uS : Upd [xb] w6 (w6.setCell ⟨xb, 1, none⟩ (.slice A6 (m + 1) c6)) := (Upd.refl [xb] w6).set_in (p := ⟨xb, 1, none⟩) (by simp) _
              have hu7 := (hup2.then_below HB6).trans uS
              have ho8 := ho7.upd uS (fun q hq hm => by have := (ho7.lt q (mem_obl.1 hq)).1; simp at hm; omega)
              have tb2 : (w6.setCell ⟨xb, 1, none⟩ (.slice A6 (m + 1) c6)).cell? ⟨xb, 0, none⟩ = some (.slice A3 n c3) := by go_simp
              have tb3 : (w6.setCell ⟨xb, 1, none⟩ (.slice A6 (m + 1) c6)).cell? ⟨xb, 1, none⟩ = some (.slice A6 (m + 1) c6) := by go_simp
              have tbg : ∀ o, (w6.setCell ⟨xb, 1, none⟩ (.slice A6 (m + 1) c6)).frozen? ⟨xb, o, none⟩ = false := fun o => by simp [sf]
              have tbp : (w6.setCell ⟨xb, 1, none⟩ (.slice A6 (m + 1) c6)).cell? ⟨pb, 1, none⟩ = some (.int .i64 p.bits) := (uBox uS pb (by have h9 := HB6.size; omega) (by simp; omega) 1).trans (bCell HB6 yp)
              go_roundw
              case rel => exact ⟨k + 1, A6, m + 1, c6, by omega, by go_num, by omega, tb2, tb3, ho8, hu7, tbg, tbp, by have h9 := HB6.size; simp; omega⟩
              case measure => simp [intOf]; omega
        · obtain rfl : k = 3 := by omega
          rw [← spT_succ HP.out] at hoE
          have hkd : decide (((3 : Nat) : Int) < 3) = false := by decide
          go_wp2_with fail
          go_roundw
          case rel => exact ⟨j + 1, E, m, ce, by omega, by go_num, by omega, t0, t1, hoE, hup, tf⟩
          case measure => simp [intOf]; omega
    · obtain rfl : j = n := by omega
      rw [spT_ents hl] at hoE
      have kk0 := uBox hup w.heap.size (by omega) (by simp; omega)
      have kk1 := uBoxF hup w.heap.size (by omega) (by simp; omega)
      have hne : w.heap.size ≠ xb := by omega
      go_wp2_with fail
      refine bodyPost_ret (v := .tuple #[vPIdx ⟨⟨A3, j, c3⟩, ⟨E, m, ce⟩⟩, .bool true]) (by simp [*, results, Try.results67, go_sem]) rfl ?_
      rw [hfin.out]
      exact ⟨_, rfl, idx_out hB0 hsW hP0.out hP2.out hwx hoE hup (((Upd.refl _ _).set_in (by simp) _).set_in (by simp) _)⟩
end Go.Proofs.Ytadmeijogbljhaa
