/- l28Draw, MakeBundle: a valid bundle. -/
import Derived.Test.YtgpmmmfnbphgdaaDraw4
import Derived.Test.YtgpmmmfnbphgdaaBun
import Derived.Deep.RegionLaw
import Derived.BigRegion
namespace Go.Proofs.Ytgpmmmfnbphgdaa
open Go.RowKit
set_option linter.unusedVariables false
set_option linter.unusedSimpArgs false
set_option maxHeartbeats 4000000
set_option maxRecDepth 100000
/-- the factors that l28Draw makes for the robot r -/
def BDraw (r : Int) (l : List Factor) : Prop := ∀ (i : Nat) (f : Factor), l[i]? = some f → vldFactor f = true ∧ f.id = 1000 * r + 2 * i + 1
theorem BDraw.push {r : Int} {l : List Factor} {f : Factor} (h : BDraw r l) (hv : vldFactor f = true) (hid : f.id = 1000 * r + 2 * l.length + 1) : BDraw r (l ++ [f]) := fun i g hg => by
  by_cases hlt : i < l.length
  · rw [List.getElem?_append_left hlt] at hg
    exact h i g hg
  · rw [List.getElem?_append_right (by omega)] at hg
    have : i - l.length = 0 := by
      rcases Nat.eq_zero_or_pos (i - l.length) with h9 | h9
      · exact h9
      · rw [List.getElem?_eq_none (by simp; omega)] at hg; cases hg
    rw [this] at hg
    simp only [List.getElem?_cons_zero, Option.some.injEq] at hg
    subst hg
    have e : i = l.length := by omega
    subst e
    exact ⟨hv, hid⟩
theorem robot_of {r i : Int} (h0 : 0 ≤ r) (h1 : r ≤ 2) (h2 : 0 ≤ i) (h3 : i ≤ 998) : robotOf (1000 * r + i + 1) = r :=
  (robotOf_yes ⟨by omega, by omega⟩).out.trans (by omega)
theorem bunL_draw {r : Int} (h0 : 0 ≤ r) (h1 : r ≤ 2) : ∀ (l : List Factor) (s : Nat), (∀ (i : Nat) (f : Factor), l[i]? = some f → vldFactor f = true ∧ f.id = 1000 * r + 2 * ((s + i : Nat) : Int) + 1) → s + l.length ≤ 100 → ∀ p : Option Int, (∀ q, p = some q → q < 1000 * r + 2 * (s : Int) + 1) → bunL r l p = true
  | [], _, _, _, _, _ => rfl
  | f :: l, s, h, hs, p, hp => by
    simp only [List.length_cons] at hs
    obtain ⟨hv, hid⟩ := h 0 f rfl
    have hid' : f.id = 1000 * r + 2 * (s : Int) + 1 := by simpa using hid
    have hro := robot_of h0 h1 (i := 2 * (s : Int)) (by omega) (by omega)
    have ih := bunL_draw h0 h1 l (s + 1) (fun i g hg => by have := h (i + 1) g (by simpa using hg); rwa [show s + (i + 1) = s + 1 + i by omega] at this) (by omega) (some f.id) (fun q hq => by simp only [Option.some.injEq] at hq; subst hq; rw [hid']; push_cast; omega)
    unfold bunL
    rw [hv, ih, hid', hro]
    cases p with
    | none => simp
    | some q => have := hp q rfl; simp; omega
theorem BDraw.isBundle {r : Int} {l : List Factor} (h : BDraw r l) (h0 : 0 ≤ r) (h1 : r ≤ 2) (h2 : 1 ≤ l.length) (h3 : l.length ≤ 4) : isBundle r l = true := by
  have := bunL_draw h0 h1 l 0 (fun i f hf => by simpa using h i f hf) (by omega) none (fun q hq => by cases hq)
  unfold Go.Proofs.Ytgpmmmfnbphgdaa.isBundle
  rw [this, inR_iff.2 ⟨h0, h1⟩, inR_iff.2 (show (1 : Int) ≤ (l.length : Int) ∧ (l.length : Int) ≤ 4 from ⟨by omega, by omega⟩)]
  rfl
theorem gBoxF2 {w w' : World} {row : Option Nat} (hg : w.grownBy w' row) (b : Nat) (hb : b < w.heap.size) (hne : ∀ k, row = some k → k ≠ b) : ∀ o, w'.frozen? ⟨b, o, none⟩ = w.frozen? ⟨b, o, none⟩ :=
  fun o => World.frozen?_of_block (a := ⟨b, o, none⟩) (hg.block b hb (fun e => hne b e.symm rfl))
/-- the state of l28Draw's loop: its result's box R, its bundle's box X, the factors -/
structure BSt (wr : World) (lo R X : Nat) (r : Int) (A : Option Addr) (c : Nat) (l : List Factor) : Prop where
  own : Own wr lo 45 8 A l.length c (l.map Factor.cells)
  neR : ¬ ob A = some R
  neX : ¬ ob A = some X
  x0 : wr.cell? ⟨X, 0, none⟩ = some (.int .i64 r)
  x1 : wr.cell? ⟨X, 1, none⟩ = some (.slice A l.length c)
  xf : ∀ o, wr.frozen? ⟨X, o, none⟩ = false
  r0 : wr.cell? ⟨R, 0, none⟩ = some (.int .i64 0)
  r1 : wr.cell? ⟨R, 1, none⟩ = some (.slice none 0 0)
  rf : ∀ o, wr.frozen? ⟨R, o, none⟩ = false
  bd : BDraw r l
  ne : X ≠ R
theorem BSt.upd {w w' : World} {lo R X : Nat} {r : Int} {A : Option Addr} {c : Nat} {l : List Factor} (h : BSt w lo R X r A c l) {b : Nat} (hu : Upd [b] w w') (hb : b < lo) (hR : lo ≤ R) (hX : lo ≤ X) : BSt w' lo R X r A c l := by
  have eX := fun o => uBox hu X (cell_lt h.x0) (by simp; omega) o
  have fX := fun o => uBoxF hu X (cell_lt h.x0) (by simp; omega) o
  have eR := fun o => uBox hu R (cell_lt h.r0) (by simp; omega) o
  have fR := fun o => uBoxF hu R (cell_lt h.r0) (by simp; omega) o
  exact ⟨h.own.upd hu (fun q hq hm => by have h1 := (h.own.lt q (mem_obl.1 hq)).1; simp at hm; omega), h.neR, h.neX, (eX 0).trans h.x0, (eX 1).trans h.x1, fun o => (fX o).trans (h.xf o), (eR 0).trans h.r0, (eR 1).trans h.r1, fun o => (fR o).trans (h.rf o), h.bd, h.ne⟩
theorem BSt.push {w5 w6 : World} {lo R X : Nat} {r : Int} {A A6 : Option Addr} {c c6 : Nat} {l : List Factor} {f : Factor} (h : BSt w5 lo R X r A c l)
    (hg : (w5.alloc (.cells f.cells.toArray 45)).grownBy w6 (ob A)) (ho : Own w6 lo 45 8 A6 (l.length + 1) c6 (l.map Factor.cells ++ [f.cells])) (hat : ob A6 = ob A ∨ ob A6 = some (w5.alloc (.cells f.cells.toArray 45)).heap.size)
    (hX : lo ≤ X) (hR : lo ≤ R) (hv : vldFactor f = true) (hid : f.id = 1000 * r + 2 * (l.length : Int) + 1) : BSt (w6.setCell ⟨X, 1, none⟩ (.slice A6 (l.length + 1) c6)) lo R X r A6 c6 (l ++ [f]) := by
  have xz : X < w5.heap.size := cell_lt h.x0
  have rz : R < w5.heap.size := cell_lt h.r0
  have at6 : ob A6 = ob A ∨ ob A6 = some (w5.heap.size + 1) := by simpa using hat
  have n6 : ∀ g, g < w5.heap.size → ¬ ob A = some g → ¬ ob A6 = some g := fun g hg h1 h2 => by
    rcases at6 with h3 | h3
    · rw [h3] at h2; exact h1 h2
    · rw [h3] at h2; have := Option.some.inj h2; omega
  have hXA := n6 X xz h.neX
  have hRA := n6 R rz h.neR
  have v0 : w6.cell? ⟨X, 0, none⟩ = some (.int .i64 r) := World.grownBy.cell hg (bCell (bAlloc (Below.refl _ _) _) h.x0) (fun e => h.neX e.symm)
  have v1 : w6.cell? ⟨X, 1, none⟩ = some (.slice A l.length c) := World.grownBy.cell hg (bCell (bAlloc (Below.refl _ _) _) h.x1) (fun e => h.neX e.symm)
  have vf : ∀ o, w6.frozen? ⟨X, o, none⟩ = false := fun o => (gBoxF2 hg X (by simp; omega) (fun q hq e => h.neX (e ▸ hq)) o).trans (frozen_al xz (h.xf o))
  have u0 : w6.cell? ⟨R, 0, none⟩ = some (.int .i64 0) := World.grownBy.cell hg (bCell (bAlloc (Below.refl _ _) _) h.r0) (fun e => h.neR e.symm)
  have u1 : w6.cell? ⟨R, 1, none⟩ = some (.slice none 0 0) := World.grownBy.cell hg (bCell (bAlloc (Below.refl _ _) _) h.r1) (fun e => h.neR e.symm)
  have uf : ∀ o, w6.frozen? ⟨R, o, none⟩ = false := fun o => (gBoxF2 hg R (by simp; omega) (fun q hq e => h.neR (e ▸ hq)) o).trans (frozen_al rz (h.rf o))
  have hXR := h.ne
  have hw : Upd [X] w6 (w6.setCell ⟨X, 1, none⟩ (.slice A6 (l.length + 1) c6)) := (Upd.refl [X] w6).set_in (p := ⟨X, 1, none⟩) (by simp) _
  have zR : R < w6.heap.size := cell_lt u0
  have ho2 := ho.upd hw (fun q hq hm => by simp only [List.mem_singleton] at hm; subst hm; exact hXA (mem_obl.1 hq))
  refine ⟨by simpa using ho2, hRA, hXA, by go_simp, by go_simp, fun o => by go_simp, (uBox hw R zR (by simp; omega) 0).trans u0, (uBox hw R zR (by simp; omega) 1).trans u1, fun o => (uBoxF hw R zR (by simp; omega) o).trans (uf o), h.bd.push hv hid, h.ne⟩
theorem l28Draw_c {W w : World} {b : Nat} {A : Option Addr} {n c : Nat} (hy : Bytes W A n) (hn : n ≤ 1048576) (h : Cur W w b A n c) :
    Calls Try.prog 13 #[.pointer (some ⟨b, 0, none⟩)] w fun e w' => ∃ (v : Sv) (bb : Bundle), e = .returned (vBundle bb.robot v.A v.n v.c) ∧ isBundle bb.robot bb.factors = true ∧ Own w' w.heap.size 45 8 v.A v.n v.c (bb.factors.map Factor.cells) ∧ Cur W w' b A n c ∧ Upd [b] w w' := by
  obtain ⟨i0, hi, hz0, hz1, hz2⟩ := info_parts info_Factor
  have hlt := h.lt
  have HWW := Lib.hid h.hB
  have HbW := Lib.hid h.hb
  have hy' := Lib.hid hy
  have HC := Lib.hid (h.alloc_ (.cells #[.int .i64 0, .slice none 0 0] 26))
  clear h hy
  go_enter Try.func13, Try.ntmps13
  go_wp2_with fail
  refine Calls.mono (l01Below_c hy'.out hn HC.out 3 (by omega) (by omega)) ?_
  rintro e w1 ⟨r, rfl, hr0, hr1, hc1, hu1⟩
  have U1 : Upd [b] w w1 := (Upd.of_below (bAlloc (Below.refl _ _) _)).trans hu1
  have z1 : w.heap.size < w1.heap.size := by have := hu1.size; simp at this; omega
  have HC1 := Lib.hid (hc1.alloc_ (.cells #[.int .i64 r, .slice none 0 0] 26))
  have r0 : w1.cell? ⟨w.heap.size, 0, none⟩ = some (.int .i64 0) := (uBox hu1 w.heap.size (by simp) (by simp; omega) _).trans (cells_b rfl)
  have r1 : w1.cell? ⟨w.heap.size, 1, none⟩ = some (.slice none 0 0) := (uBox hu1 w.heap.size (by simp) (by simp; omega) _).trans (cells_b rfl)
  have rf : ∀ o, w1.frozen? ⟨w.heap.size, o, none⟩ = false := fun o => (uBoxF hu1 w.heap.size (by simp) (by simp; omega) _).trans (frozen_a _ _ _ _)
  have st1 : BSt (w1.alloc (.cells #[.int .i64 r, .slice none 0 0] 26)) w.heap.size w.heap.size w1.heap.size r none 0 [] :=
    ⟨Own.nil_ _ _ _ _, by simp [ob], by simp [ob], cells_b rfl, cells_b rfl, fun o => frozen_a _ _ _ _, bCell (bAlloc (Below.refl _ _) _) r0, bCell (bAlloc (Below.refl _ _) _) r1, fun o => frozen_al z1 (rf o), fun i f hf => by simp at hf, by omega⟩
  clear HC hc1 hu1 r0 r1 rf
  go_wp2_with fail
  refine Calls.mono (l01Below_c hy'.out hn HC1.out 4 (by omega) (by omega)) ?_
  rintro e w2 ⟨y, rfl, hy0, hy1, hc2, hu2⟩
  have U2 := (U1.alloc_ (.cells #[.int .i64 r, .slice none 0 0] 26)).trans hu2
  have st2 := st1.upd hu2 hlt (Nat.le_refl _) (by omega)
  have hX0 := Lib.hid z1
  generalize w1.heap.size = X at *
  have HX : Hid (w.heap.size ≤ X) := Nat.le_of_lt hX0.out
  clear HC1 st1 hu2 U1
  go_wp2_with fail
  go_loopw [4] (fun i wr => ∃ (k : Nat) (A' : Option Addr) (c' : Nat) (l : List Factor), i = .int .i64 (k : Int) ∧ l.length + k ≤ 4 ∧ 1 ≤ l.length + k ∧ BSt wr w.heap.size w.heap.size X r A' c' l ∧ Cur W wr b A n c ∧ Upd [b] w wr) (fun i _ => (intOf i).toNat)
  case atStart => exact ⟨(1 + y).toNat, none, 0, [], by simp; omega, by simp; omega, by simp; omega, st2, hc2, U2⟩
  case round =>
    obtain ⟨k, A', c', l, rfl, hk4, hk1, hst, hc, hu⟩ := hrel
    have HC2 := Lib.hid hc
    have HST := Lib.hid hst
    by_cases hlt2 : 0 < k
    · have hi1 : (0 : Int) < (k : Int) := by omega
      have hr2 : r ≤ 2 := by omega
      have hll : l.length ≤ 3 := by omega
      have x0 := hst.x0
      have x1 := hst.x1
      have xf := hst.xf
      have xz := cell_lt hst.x0
      simp only at xz
      have hX := HX.out
      have hidx : inR (1000 * r + 2 * (l.length : Int) + 1) 0 99999 = true := inR_iff.2 ⟨by omega, by omega⟩
      have HIDX := Lib.hid hidx
      have hw1 : IntKind.i64.wrap (1000 * r) = 1000 * r := by rw [IntKind.wrap_i64]; omega
      have hw2 : IntKind.i64.wrap (2 * (l.length : Int)) = 2 * (l.length : Int) := by rw [IntKind.wrap_i64]; omega
      have hw3 : IntKind.i64.wrap (1000 * r + 2 * (l.length : Int)) = 1000 * r + 2 * (l.length : Int) := by rw [IntKind.wrap_i64]; omega
      have hw4 : IntKind.i64.wrap (1000 * r + 2 * (l.length : Int) + 1) = 1000 * r + 2 * (l.length : Int) + 1 := by rw [IntKind.wrap_i64]; omega
      have UW := Lib.hid hu
      clear hc hst hc2 st2 U2 hidx hu
      go_wp2_with fail
      go_region_law (first
        | (refine step_append rfl (.tmp 16) (.tmp 28) 23 rfl w.heap.size 45 8 80 i0 _ Try.underlying23 hi hz0 hz1 hz2 rfl (by omega) A' l.length c' _ rfl (st5.own.alloc_ _) _ 1 1 [Factor.cells ⟨1000 * r + 2 * (l.length : Int) + 1, kk, fr, to, ⟨t, px, py⟩, wt⟩] rfl (Row.new1' _ _ _ 8 _ (by simp)) (by simp [Factor.cells]) (by simp [Factor.cells, Value.oneCell']) (by simp only [maxLen]; omega) (by omega) (by simp; omega) ?_; intro A6 c6 w6 ho6 hg6 hat6; have v1 : w6.cell? ⟨X, 1, none⟩ = some (.slice A' l.length c') := World.grownBy.cell hg6 (bCell (bAlloc (Below.refl _ _) _) y1) (fun e => st5.neX e.symm); have vf : ∀ o, w6.frozen? ⟨X, o, none⟩ = false := (fun o => (gBoxF2 hg6 X (by simp; omega) (fun q hq e => st5.neX (e ▸ hq)) o).trans (frozen_al yz (st5.xf o))))
        | (go_simp; go_at_call 22; refine (l16Draw_c hy'.out hn (HC2.out.below (bDrew (Below.refl _ _))) _ HIDX.out).mono ?_; rintro e w5 ⟨kk, fr, to, t, px, py, wt, rfl, hvf, hc5, hu5⟩; have st5 := (BSt.upd (b := b) HST.out ((Upd.refl [b] wr).then_drew.trans hu5) hlt (Nat.le_refl _) hX); have y0 := st5.x0; have y1 := st5.x1; have yz : X < w5.heap.size := cell_lt st5.x0; have ys := hu5.size))
      all_goals
        have hBS := BSt.push (f := ⟨1000 * r + 2 * (l.length : Int) + 1, kk, fr, to, ⟨t, px, py⟩, wt⟩) st5 hg6 ho6 hat6 hX (Nat.le_refl _) hvf rfl
        have hc6 : Cur W w6 b A n c := (hc5.alloc_ (.cells (Factor.cells ⟨1000 * r + 2 * (l.length : Int) + 1, kk, fr, to, ⟨t, px, py⟩, wt⟩).toArray 45)).keep (bUpd1 (w := w) HWW.out (Upd.grown_hi2 ((UW.out.then_drew.trans hu5).alloc_ _) hg6 (fun q hq => (st5.own.lt q hq).1)) (Nat.le_trans HbW.out (Nat.le_refl _))) (hg6.block b (by have := hc5.lt; simp; omega) (fun e => by have := (st5.own.lt b e.symm).1; omega))
        have hc7 := hc6.set_ (p := ⟨X, 1, none⟩) (Nat.lt_of_lt_of_le hlt hX) (.slice A6 (l.length + 1) c6)
        have hU7 := (Upd.grown_hi2 ((UW.out.then_drew.trans hu5).alloc_ _) hg6 (fun q hq => (st5.own.lt q hq).1)).set_new (p := ⟨X, 1, none⟩) hX (.slice A6 (l.length + 1) c6)
        have HBS := Lib.hid hBS
        have HC7 := Lib.hid hc7
        have HU7 := Lib.hid hU7
        clear hBS hc6 hc7 hU7 v1 vf y0 y1 x0 x1 xf hc5 hu5
        go_wp2_with fail
        exact ⟨⟨k - 1, A6, c6, l ++ [⟨1000 * r + 2 * (l.length : Int) + 1, kk, fr, to, ⟨t, px, py⟩, wt⟩], by simp; omega, by simp; omega, by simp; omega, by simpa using HBS.out, HC7.out, HU7.out⟩, by simp only [intOf]; omega⟩
    · have x0 := hst.x0
      have x1 := hst.x1
      have r0 := hst.r0
      have r1 := hst.r1
      have rf := hst.rf
      have hbd := hst.bd
      clear hc hst hc2 st2
      go_wp2_with fail
      have hw' : Upd [w.heap.size] wr ((wr.setCell ⟨w.heap.size, 0, none⟩ (.int .i64 r)).setCell ⟨w.heap.size, 1, none⟩ (.slice A' l.length c')) :=
        ((Upd.refl [w.heap.size] wr).set_in (p := ⟨w.heap.size, 0, none⟩) (by simp) _).set_in (p := ⟨w.heap.size, 1, none⟩) (by simp) _
      have hown' := HST.out.own.upd hw' (fun q hq hm => by simp only [List.mem_singleton] at hm; subst hm; exact HST.out.neR (mem_obl.1 hq))
      have hcur' := ((HC2.out.set_ (p := ⟨w.heap.size, 0, none⟩) hlt (.int .i64 r)).set_ (p := ⟨w.heap.size, 1, none⟩) hlt (.slice A' l.length c'))
      have hupd' := ((hu.set_new (p := ⟨w.heap.size, 0, none⟩) (Nat.le_refl _) (.int .i64 r)).set_new (p := ⟨w.heap.size, 1, none⟩) (Nat.le_refl _) (.slice A' l.length c'))
      exact bodyPost_ret (v := vBundle r A' l.length c') (by simp [*, results, Try.results13, go_sem]) rfl ⟨⟨A', l.length, c'⟩, ⟨r, l⟩, rfl, hbd.isBundle hr0 (by omega) (by omega) (by omega), hown', hcur', hupd'⟩
theorem MakeBundle_c {W w : World} {A : Option Addr} {n c : Nat} (hB : Below W.heap.size W w) (hy : Bytes W A n) (hn : n ≤ 1048576) :
    Calls Try.prog 5 #[.slice A n c] w fun e w' => ∃ (v : Sv) (bb : Bundle), e = .returned (vBundle bb.robot v.A v.n v.c) ∧ isBundle bb.robot bb.factors = true ∧ OwF w' v bb.factors ∧ Fresh w.heap.size w' (fpF v) ∧ Below w.heap.size w w' := by
  have HB := Lib.hid hB
  have hy' := Lib.hid hy
  have HB1 := Lib.hid (bAlloc hB (.cells #[.int .i64 0, .slice none 0 0] 26))
  clear hB hy
  go_enter Try.func5, Try.ntmps5
  go_wp2_with fail
  refine Calls.mono (l01New_c (c := c) HB1.out hy'.out hn) ?_
  rintro e w1 ⟨b, rfl, hb, hc1, hb1⟩
  have hb' : w.heap.size + 1 ≤ b := by simpa using hb
  have B1 : Below w.heap.size w w1 := bTrans (bAlloc (Below.refl _ _) _) hb1
  have r0 : w1.cell? ⟨w.heap.size, 0, none⟩ = some (.int .i64 0) := bCell hb1 (cells_b rfl)
  have r1 : w1.cell? ⟨w.heap.size, 1, none⟩ = some (.slice none 0 0) := bCell hb1 (cells_b rfl)
  have rf : ∀ o, w1.frozen? ⟨w.heap.size, o, none⟩ = false := fun o => (bBoxF hb1 w.heap.size (by simp) o).trans (frozen_a _ _ _ _)
  have HC1 := Lib.hid hc1
  clear hc1 hb1
  go_wp2_with fail
  refine Calls.mono (l28Draw_c hy'.out hn HC1.out) ?_
  rintro e w2 ⟨v, bb, rfl, hbd, ho, hc2, hu2⟩
  have z1 : w.heap.size < w1.heap.size := cell_lt r0
  have s0 := (uBox hu2 w.heap.size z1 (by simp; omega) 0).trans r0
  have s1 := (uBox hu2 w.heap.size z1 (by simp; omega) 1).trans r1
  have sf : ∀ o, w2.frozen? ⟨w.heap.size, o, none⟩ = false := fun o => (uBoxF hu2 w.heap.size z1 (by simp; omega) o).trans (rf o)
  have HBD := Lib.hid hbd
  have B2 := bUpd1 (W := w) B1 hu2 (by omega)
  have hw' : Upd [w.heap.size] w2 ((w2.setCell ⟨w.heap.size, 0, none⟩ (.int .i64 bb.robot)).setCell ⟨w.heap.size, 1, none⟩ (.slice v.A v.n v.c)) :=
    ((Upd.refl [w.heap.size] w2).set_in (p := ⟨w.heap.size, 0, none⟩) (by simp) _).set_in (p := ⟨w.heap.size, 1, none⟩) (by simp) _
  have ho' := ho.upd hw' (fun q hq hm => by have h1 := (ho.lt q (mem_obl.1 hq)).1; simp at hm; omega)
  have hf' : Fresh w.heap.size _ (fpF v) := Fresh.rebase (Fresh.obl_ ho') (Nat.le_of_lt z1)
  have hB' := bSet (bSet B2 (p := ⟨w.heap.size, 0, none⟩) (Nat.le_refl _) (.int .i64 bb.robot)) (p := ⟨w.heap.size, 1, none⟩) (Nat.le_refl _) (.slice v.A v.n v.c)
  clear hbd hc2 hu2 HC1
  go_wp2_with fail
  exact bodyPost_ret (v := vBundle bb.robot v.A v.n v.c) (by simp [*, results, Try.results5, go_sem]) rfl ⟨v, bb, rfl, HBD.out, ho'.zero, hf', hB'⟩
end Go.Proofs.Ytgpmmmfnbphgdaa
