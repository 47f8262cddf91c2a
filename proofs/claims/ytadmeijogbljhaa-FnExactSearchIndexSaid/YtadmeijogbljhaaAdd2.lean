/- Factors are added: what the reference's AddFactor answers. -/
import Derived.Test.YtadmeijogbljhaaAdd
namespace Go.Proofs.Ytadmeijogbljhaa
open Go.RowKit
set_option linter.unusedVariables false
set_option linter.unusedSimpArgs false
set_option maxHeartbeats 2000000
set_option maxRecDepth 100000
theorem made_any (w : World) (B e sz : Nat) {a : Nat} (h : a = w.heap.size) (hB : B ≤ w.heap.size) : Own (w.alloc (.cells #[] e)) B e sz (some ⟨a, 0, none⟩) 0 0 [] := by subst h; exact Own.made0 w e sz hB
/-- an older slice behind three appends to a newer one -/
theorem same_kept {wr X w3 w4 w5 : World} {B e sz n c : Nat} {A : Option Addr} {css : List (List Value)} {r1 r2 r3 : Option Nat} {o : Obj} (h : Own wr B e sz A n c css) (hx : Below wr.heap.size wr X)
    (g1 : X.grownBy w3 r1) (g2 : (w3.alloc o).grownBy w4 r2) (g3 : w4.grownBy w5 r3) (h1 : ∀ q, r1 = some q → wr.heap.size ≤ q) (h2 : ∀ q, r2 = some q → wr.heap.size ≤ q) (h3 : ∀ q, r3 = some q → wr.heap.size ≤ q) : Own w5 B e sz A n c css := by
  have hb : Below wr.heap.size wr w5 := bGrown (bGrown (bAlloc (bGrown hx g1 h1) _) g2 h2) g3 h3
  exact h.below hb
theorem spec_AddFactor_k (v : Sv) (l : List Factor) (f : Factor) (w : World) (hm : fewF l) (hs : smallFs l) (hfs : f.frm.size ≤ 1048576 ∧ f.to.size ≤ 1048576) (hsl : SlOk v) (hr : RdF w v l) :
    Calls Try.prog 151 #[.slice v.A v.n v.c, vFactor f.id f.kind f.frm f.to f.pose.turn f.pose.x f.pose.y f.weight] w fun e w' => ∃ v' : Sv, e = .returned (.tuple #[.slice v'.A v'.n v'.c, .bool (addF l f).2]) ∧ FPost w v' (addF l f).1 w' := by
  obtain ⟨A, n, c⟩ := v
  have hnc := hsl.nc
  dsimp only [SlOk] at hnc hsl ⊢
  obtain ⟨hnc1, hnc2⟩ := hnc
  have hl := hr.len
  have hm1 : n ≤ 1048576 := by have := hl.out; unfold fewF at hm; simp only at this; omega
  obtain ⟨i0, hii, hq0, hq1, hq2⟩ := info_parts info_Factor
  generalize hb1 : isFL l = b1
  have HB1 := Lib.hid hb1
  clear hb1
  go_enter Try.func151, Try.ntmps151
  go_wp2_with (at_builtin; refine wpList_append rfl (.tmp 9) (.tmp 10) 42 rfl w.heap.size 133 8 80 i0 _ Try.underlying42 hii hq0 hq1 hq2 rfl (by omega) _ 0 0 [] rfl (made_any _ _ _ _ (by simp) (by simp)) A n c (l.map Factor.cells) rfl (Row.below hr (bAlloc (bAlloc (Below.refl _ _) _) _)) one_F cell_F (by simp only [maxLen]; omega) (by omega) (by simp; try omega) ?_; intro A1 c1 w1 ho1 hg1 hat1; have k1 := gBox hg1 w.heap.size (by simp; try omega) (fun q hq e => by simp [ob] at hq; omega); have z1 : w.heap.size + 1 ≤ w1.heap.size := (by have h9 := hg1.size; simp at h9; omega))
  simp only [Nat.zero_add, List.nil_append] at ho1
  have H1 := bGrown (bAlloc (bAlloc (Below.refl w.heap.size w) _) _) hg1 (fun q hq => by simp [ob] at hq; omega)
  go_wp2_with fail
  refine Calls.mono (spec_IsFactorList_c A n c l _ hm1 (Row.below hr H1) hs) ?_
  rintro e w2 ⟨rfl, hk2⟩
  rw [HB1.out]
  have H := bTrans H1 hk2
  have ho1 := ho1.below hk2
  have k2 := bBox hk2 w.heap.size (by omega)
  have z2 : w.heap.size + 1 ≤ w2.heap.size := by have := hk2.size; omega
  cases b1
  · have E := Lib.hid (addF_no (f := f) HB1.out)
    go_wp2_with fail
    go_ret2
    rw [E.out]
    exact ⟨⟨A1, _, c1⟩, rfl, ho1.zero, Fresh.obl_ ho1, H⟩
  go_wp2_with fail
  go_loopw [7] (fun i wr => ∃ (k : Nat), k ≤ n ∧ i = .int .i64 k ∧ InsInv l f k ∧ Below w2.heap.size w2 wr) (fun i _ => n - (intOf i).toNat)
  case atStart => exact ⟨0, by omega, rfl, InsInv.start l f, Below.refl _ _⟩
  case round =>
    obtain ⟨k, hk, rfl, hi, hbr⟩ := hrel
    have kr := bBox hbr w.heap.size (by omega)
    have zr : w.heap.size + 1 ≤ wr.heap.size := by have := hbr.size; omega
    have Hr := bTrans H hbr
    have ho1 := ho1.below hbr
    by_cases hlt : k < n
    · obtain ⟨p, g, off, hf, rfl, g0, -⟩ := RowF.at_ (Row.below hr Hr) hlt
      have h0 : (0 : Int) ≤ (k : Int) := by omega
      have h1 : (k : Int) < (n : Int) := by omega
      by_cases hid : p.id < f.id
      · have hnx := hi.step hf hid
        clear hi
        go_wp2_with fail
        go_quiet (fail)
        go_wp2_with fail
        go_roundw
        case rel => exact ⟨k + 1, by omega, by go_num, hnx, bDrewN hbr _⟩
        case measure => simp [intOf]; omega
      · have hat := hi.stop hf hid
        clear hi
        go_wp2_with fail
        go_quiet (fail)
        have gb0 : wr.cell? ⟨w.heap.size, 0, none⟩ = some (.int .i64 f.id) := by rw [kr, k2, k1]; simp
        have gb1 : wr.cell? ⟨w.heap.size, 1, none⟩ = some (.int .i64 f.kind) := by rw [kr, k2, k1]; simp
        have gb2 : wr.cell? ⟨w.heap.size, 2, none⟩ = some (.string f.frm) := by rw [kr, k2, k1]; simp
        have gb3 : wr.cell? ⟨w.heap.size, 3, none⟩ = some (.string f.to) := by rw [kr, k2, k1]; simp
        have gb4 : wr.cell? ⟨w.heap.size, 4, none⟩ = some (.int .i64 f.pose.turn) := by rw [kr, k2, k1]; simp
        have gb5 : wr.cell? ⟨w.heap.size, 5, none⟩ = some (.int .i64 f.pose.x) := by rw [kr, k2, k1]; simp
        have gb6 : wr.cell? ⟨w.heap.size, 6, none⟩ = some (.int .i64 f.pose.y) := by rw [kr, k2, k1]; simp
        have gb7 : wr.cell? ⟨w.heap.size, 7, none⟩ = some (.int .i64 f.weight) := by rw [kr, k2, k1]; simp
        clear kr k2 k1
        have hkc : (k : Int) ≤ (c : Int) := by omega
        have hk00 : (0 : Int) ≤ (k : Int) := by omega
        have hrk : RdF wr ⟨some ⟨g, off, none⟩, k, c⟩ (l.take k) := Row.take_ (Row.below hr Hr) (by omega)
        have L40 := isFL_len HB1.out
        have L9 : l.length = n := hl.out
        go_wp2_with (first | (at_builtin; (refine wpList_append rfl (.tmp 32) (.tmp 35) 42 rfl wr.heap.size 133 8 80 i0 _ Try.underlying42 hii hq0 hq1 hq2 rfl (by omega) (some ⟨wr.heap.size, 0, none⟩) 0 0 [] rfl (made_any _ _ _ _ (by simp) (by simp)) (some ⟨g, off, none⟩) k c ((l.take k).map Factor.cells) rfl (Row.below hrk (by repeat (first | with_reducible exact Below.refl _ _ | with_reducible refine bAlloc ?_ _ | with_reducible refine bDrew ?_ | with_reducible refine bDrewN ?_ _))) one_F cell_F (by simp only [maxLen]; omega) (by omega) (by simp) ?_; intro A2 c2 w3 ho2 hg2 hat2; simp only [Nat.zero_add, List.nil_append] at ho2 ⊢; have kb := gBox hg2 w.heap.size (by first | omega | (simp; omega)) (fun q hq e => by simp [ob] at hq; omega); have z3 : w.heap.size + 1 ≤ w3.heap.size := (by have h9 := hg2.size; simp at h9; omega); have gc0 : w3.cell? ⟨w.heap.size, 0, none⟩ = some (.int .i64 f.id) := (kb 0).trans (bCell (by repeat (first | with_reducible exact Below.refl _ _ | with_reducible refine bAlloc ?_ _ | with_reducible refine bDrew ?_ | with_reducible refine bDrewN ?_ _)) gb0); have gc1 : w3.cell? ⟨w.heap.size, 1, none⟩ = some (.int .i64 f.kind) := (kb 1).trans (bCell (by repeat (first | with_reducible exact Below.refl _ _ | with_reducible refine bAlloc ?_ _ | with_reducible refine bDrew ?_ | with_reducible refine bDrewN ?_ _)) gb1); have gc2 : w3.cell? ⟨w.heap.size, 2, none⟩ = some (.string f.frm) := (kb 2).trans (bCell (by repeat (first | with_reducible exact Below.refl _ _ | with_reducible refine bAlloc ?_ _ | with_reducible refine bDrew ?_ | with_reducible refine bDrewN ?_ _)) gb2); have gc3 : w3.cell? ⟨w.heap.size, 3, none⟩ = some (.string f.to) := (kb 3).trans (bCell (by repeat (first | with_reducible exact Below.refl _ _ | with_reducible refine bAlloc ?_ _ | with_reducible refine bDrew ?_ | with_reducible refine bDrewN ?_ _)) gb3); have gc4 : w3.cell? ⟨w.heap.size, 4, none⟩ = some (.int .i64 f.pose.turn) := (kb 4).trans (bCell (by repeat (first | with_reducible exact Below.refl _ _ | with_reducible refine bAlloc ?_ _ | with_reducible refine bDrew ?_ | with_reducible refine bDrewN ?_ _)) gb4); have gc5 : w3.cell? ⟨w.heap.size, 5, none⟩ = some (.int .i64 f.pose.x) := (kb 5).trans (bCell (by repeat (first | with_reducible exact Below.refl _ _ | with_reducible refine bAlloc ?_ _ | with_reducible refine bDrew ?_ | with_reducible refine bDrewN ?_ _)) gb5); have gc6 : w3.cell? ⟨w.heap.size, 6, none⟩ = some (.int .i64 f.pose.y) := (kb 6).trans (bCell (by repeat (first | with_reducible exact Below.refl _ _ | with_reducible refine bAlloc ?_ _ | with_reducible refine bDrew ?_ | with_reducible refine bDrewN ?_ _)) gb6); have gc7 : w3.cell? ⟨w.heap.size, 7, none⟩ = some (.int .i64 f.weight) := (kb 7).trans (bCell (by repeat (first | with_reducible exact Below.refl _ _ | with_reducible refine bAlloc ?_ _ | with_reducible refine bDrew ?_ | with_reducible refine bDrewN ?_ _)) gb7); clear kb)) | (at_builtin; (refine wpList_append rfl (.tmp 37) (.tmp 39) 42 rfl wr.heap.size 133 8 80 i0 _ Try.underlying42 hii hq0 hq1 hq2 rfl (by omega) A2 (k) c2 _ rfl (ho2.alloc_ _) _ 1 1 [f.cells] rfl (Row.new1' _ _ f.cells 8 _ (by simp)) (by simp [Factor.cells]) (by simp [Factor.cells, Value.oneCell']) (by simp only [maxLen]; omega) (by omega) (by have h9 := hg2.size; simp at h9 ⊢; omega) ?_; intro A4 c4 w4 ho4 hg4 hat4; have Z4 : wr.heap.size ≤ w4.heap.size := (by have h8 := hg2.size; have h9 := hg4.size; simp at h8 h9; omega); have H4 : Below w.heap.size w w4 := bGrown (bAlloc (bGrown (show Below w.heap.size w _ from by repeat (first | with_reducible exact Hr | with_reducible refine bAlloc ?_ _ | with_reducible refine bDrew ?_ | with_reducible refine bDrewN ?_ _)) hg2 (fun q hq => by simp [ob] at hq; omega)) _) hg4 (fun q hq => by have h9 := (ho2.lt q hq).1; omega))) | (at_builtin; refine wpList_append rfl (.tmp 41) (.tmp 44) 42 rfl wr.heap.size 133 8 80 i0 _ Try.underlying42 hii hq0 hq1 hq2 rfl (by omega) A4 (k + 1) c4 _ rfl ho4 (some ⟨g, off + k * 8, none⟩) (n - k) (c - k) ((l.drop k).map Factor.cells) rfl (Row.drop_ (Row.below hr H4) hk) one_F cell_F (by simp only [maxLen]; omega) (by omega) Z4 ?_; intro A5 c5 w5 ho5 hg5 hat5))
        have H5 := bGrown H4 hg5 (fun q hq => by have h9 := (ho4.lt q hq).1; omega)
        have hs1 : Own w5 w.heap.size 133 8 A1 n c1 (l.map Factor.cells) := same_kept ho1 (by repeat (first | with_reducible exact Below.refl _ _ | with_reducible refine bAlloc ?_ _ | with_reducible refine bDrew ?_ | with_reducible refine bDrewN ?_ _)) hg2 hg4 hg5 (fun q hq => by simp [ob] at hq; omega) (fun q hq => (ho2.lt q hq).1) (fun q hq => (ho4.lt q hq).1)
        have e6 : ((l.take k).map Factor.cells ++ [f.cells] ++ (l.drop k).map Factor.cells) = (insF l f).map Factor.cells := by rw [insF, hat.out]; simp
        (try simp only [List.nil_append] at ho5)
        rw [e6] at ho5
        have hsm : smallFs (insF l f) := ins_small hs hfs
        generalize hb3 : isFL (insF l f) = b3
        have HB3 := Lib.hid hb3
        clear hb3
        go_wp2_with fail
        refine Calls.mono (spec_IsFactorList_c A5 _ c5 (insF l f) _ ?_ ho5.row hsm) ?_
        · omega
        rintro e w6 ⟨rfl, hk6⟩
        rw [HB3.out]
        have H6 := bTrans H5 hk6
        have ho6 := (ho5.below hk6).rebase (show w.heap.size ≤ wr.heap.size from Hr.size)
        cases b3
        · have E := Lib.hid (addF_bad HB3.out)
          have hs2 := hs1.below hk6
          go_wp2_with fail
          go_ret2
          rw [E.out]
          exact ⟨⟨A1, _, c1⟩, rfl, hs2.zero, Fresh.obl_ hs2, H6⟩
        · have E := Lib.hid (addF_yes HB1.out HB3.out)
          go_wp2_with fail
          go_ret2
          rw [E.out]
          exact ⟨⟨A5, _, c5⟩, rfl, ho6.zero, Fresh.obl_ ho6, H6⟩
    · have hat := hi.done hl hlt
      clear hi
      have h1 : ¬ (k : Int) < (n : Int) := by omega
      obtain rfl : k = n := by omega
      rcases hsl with ⟨rfl, h00, hc0⟩ | ⟨g, off, rfl, hnc1, hnc2⟩
      · subst h00; subst hc0
        go_wp2_with fail
        go_quiet (fail)
        have gb0 : wr.cell? ⟨w.heap.size, 0, none⟩ = some (.int .i64 f.id) := by rw [kr, k2, k1]; simp
        have gb1 : wr.cell? ⟨w.heap.size, 1, none⟩ = some (.int .i64 f.kind) := by rw [kr, k2, k1]; simp
        have gb2 : wr.cell? ⟨w.heap.size, 2, none⟩ = some (.string f.frm) := by rw [kr, k2, k1]; simp
        have gb3 : wr.cell? ⟨w.heap.size, 3, none⟩ = some (.string f.to) := by rw [kr, k2, k1]; simp
        have gb4 : wr.cell? ⟨w.heap.size, 4, none⟩ = some (.int .i64 f.pose.turn) := by rw [kr, k2, k1]; simp
        have gb5 : wr.cell? ⟨w.heap.size, 5, none⟩ = some (.int .i64 f.pose.x) := by rw [kr, k2, k1]; simp
        have gb6 : wr.cell? ⟨w.heap.size, 6, none⟩ = some (.int .i64 f.pose.y) := by rw [kr, k2, k1]; simp
        have gb7 : wr.cell? ⟨w.heap.size, 7, none⟩ = some (.int .i64 f.weight) := by rw [kr, k2, k1]; simp
        clear kr k2 k1
        have hkc : ((0 : Nat) : Int) ≤ ((0 : Nat) : Int) := by omega
        have hk00 : ((0 : Nat) : Int) ≤ ((0 : Nat) : Int) := by omega
        have hrk : RdF wr ⟨none, 0, 0⟩ (l.take 0) := Row.take_ (Row.below hr Hr) (by omega)
        have L40 := isFL_len HB1.out
        have L9 : l.length = 0 := hl.out
        go_wp2_with (first | (at_builtin; (refine wpList_append rfl (.tmp 32) (.tmp 35) 42 rfl wr.heap.size 133 8 80 i0 _ Try.underlying42 hii hq0 hq1 hq2 rfl (by omega) (some ⟨wr.heap.size, 0, none⟩) 0 0 [] rfl (made_any _ _ _ _ (by simp) (by simp)) (none) 0 0 ((l.take 0).map Factor.cells) rfl (Row.below hrk (by repeat (first | with_reducible exact Below.refl _ _ | with_reducible refine bAlloc ?_ _ | with_reducible refine bDrew ?_ | with_reducible refine bDrewN ?_ _))) one_F cell_F (by simp only [maxLen]; omega) (by omega) (by simp) ?_; intro A2 c2 w3 ho2 hg2 hat2; simp only [Nat.zero_add, List.nil_append] at ho2 ⊢; have kb := gBox hg2 w.heap.size (by first | omega | (simp; omega)) (fun q hq e => by simp [ob] at hq; omega); have z3 : w.heap.size + 1 ≤ w3.heap.size := (by have h9 := hg2.size; simp at h9; omega); have gc0 : w3.cell? ⟨w.heap.size, 0, none⟩ = some (.int .i64 f.id) := (kb 0).trans (bCell (by repeat (first | with_reducible exact Below.refl _ _ | with_reducible refine bAlloc ?_ _ | with_reducible refine bDrew ?_ | with_reducible refine bDrewN ?_ _)) gb0); have gc1 : w3.cell? ⟨w.heap.size, 1, none⟩ = some (.int .i64 f.kind) := (kb 1).trans (bCell (by repeat (first | with_reducible exact Below.refl _ _ | with_reducible refine bAlloc ?_ _ | with_reducible refine bDrew ?_ | with_reducible refine bDrewN ?_ _)) gb1); have gc2 : w3.cell? ⟨w.heap.size, 2, none⟩ = some (.string f.frm) := (kb 2).trans (bCell (by repeat (first | with_reducible exact Below.refl _ _ | with_reducible refine bAlloc ?_ _ | with_reducible refine bDrew ?_ | with_reducible refine bDrewN ?_ _)) gb2); have gc3 : w3.cell? ⟨w.heap.size, 3, none⟩ = some (.string f.to) := (kb 3).trans (bCell (by repeat (first | with_reducible exact Below.refl _ _ | with_reducible refine bAlloc ?_ _ | with_reducible refine bDrew ?_ | with_reducible refine bDrewN ?_ _)) gb3); have gc4 : w3.cell? ⟨w.heap.size, 4, none⟩ = some (.int .i64 f.pose.turn) := (kb 4).trans (bCell (by repeat (first | with_reducible exact Below.refl _ _ | with_reducible refine bAlloc ?_ _ | with_reducible refine bDrew ?_ | with_reducible refine bDrewN ?_ _)) gb4); have gc5 : w3.cell? ⟨w.heap.size, 5, none⟩ = some (.int .i64 f.pose.x) := (kb 5).trans (bCell (by repeat (first | with_reducible exact Below.refl _ _ | with_reducible refine bAlloc ?_ _ | with_reducible refine bDrew ?_ | with_reducible refine bDrewN ?_ _)) gb5); have gc6 : w3.cell? ⟨w.heap.size, 6, none⟩ = some (.int .i64 f.pose.y) := (kb 6).trans (bCell (by repeat (first | with_reducible exact Below.refl _ _ | with_reducible refine bAlloc ?_ _ | with_reducible refine bDrew ?_ | with_reducible refine bDrewN ?_ _)) gb6); have gc7 : w3.cell? ⟨w.heap.size, 7, none⟩ = some (.int .i64 f.weight) := (kb 7).trans (bCell (by repeat (first | with_reducible exact Below.refl _ _ | with_reducible refine bAlloc ?_ _ | with_reducible refine bDrew ?_ | with_reducible refine bDrewN ?_ _)) gb7); clear kb)) | (at_builtin; (refine wpList_append rfl (.tmp 37) (.tmp 39) 42 rfl wr.heap.size 133 8 80 i0 _ Try.underlying42 hii hq0 hq1 hq2 rfl (by omega) A2 (0) c2 _ rfl (ho2.alloc_ _) _ 1 1 [f.cells] rfl (Row.new1' _ _ f.cells 8 _ (by simp)) (by simp [Factor.cells]) (by simp [Factor.cells, Value.oneCell']) (by simp only [maxLen]; omega) (by omega) (by have h9 := hg2.size; simp at h9 ⊢; omega) ?_; intro A4 c4 w4 ho4 hg4 hat4; have Z4 : wr.heap.size ≤ w4.heap.size := (by have h8 := hg2.size; have h9 := hg4.size; simp at h8 h9; omega); have H4 : Below w.heap.size w w4 := bGrown (bAlloc (bGrown (show Below w.heap.size w _ from by repeat (first | with_reducible exact Hr | with_reducible refine bAlloc ?_ _ | with_reducible refine bDrew ?_ | with_reducible refine bDrewN ?_ _)) hg2 (fun q hq => by simp [ob] at hq; omega)) _) hg4 (fun q hq => by have h9 := (ho2.lt q hq).1; omega))) | (at_builtin; refine wpList_append rfl (.tmp 41) (.tmp 44) 42 rfl wr.heap.size 133 8 80 i0 _ Try.underlying42 hii hq0 hq1 hq2 rfl (by omega) A4 (0 + 1) c4 _ rfl ho4 _ 0 _ [] rfl (Row.nil_ _ _ _) (by simp) (by simp) (by simp only [maxLen]; omega) (by omega) Z4 ?_; intro A5 c5 w5 ho5 hg5 hat5))
        have H5 := bGrown H4 hg5 (fun q hq => by have h9 := (ho4.lt q hq).1; omega)
        have hs1 : Own w5 w.heap.size 133 8 A1 0 c1 (l.map Factor.cells) := same_kept ho1 (by repeat (first | with_reducible exact Below.refl _ _ | with_reducible refine bAlloc ?_ _ | with_reducible refine bDrew ?_ | with_reducible refine bDrewN ?_ _)) hg2 hg4 hg5 (fun q hq => by simp [ob] at hq; omega) (fun q hq => (ho2.lt q hq).1) (fun q hq => (ho4.lt q hq).1)
        have e6 : ((l.take 0).map Factor.cells ++ [f.cells] ++ []) = (insF l f).map Factor.cells := by rw [insF, hat.out]; simp; first | omega | exact List.eq_nil_of_length_eq_zero L9 | (rw [List.eq_nil_of_length_eq_zero L9]; rfl)
        (try simp only [List.nil_append] at ho5)
        rw [e6] at ho5
        have hsm : smallFs (insF l f) := ins_small hs hfs
        generalize hb3 : isFL (insF l f) = b3
        have HB3 := Lib.hid hb3
        clear hb3
        go_wp2_with fail
        refine Calls.mono (spec_IsFactorList_c A5 _ c5 (insF l f) _ ?_ ho5.row hsm) ?_
        · omega
        rintro e w6 ⟨rfl, hk6⟩
        rw [HB3.out]
        have H6 := bTrans H5 hk6
        have ho6 := (ho5.below hk6).rebase (show w.heap.size ≤ wr.heap.size from Hr.size)
        cases b3
        · have E := Lib.hid (addF_bad HB3.out)
          have hs2 := hs1.below hk6
          go_wp2_with fail
          go_ret2
          rw [E.out]
          exact ⟨⟨A1, _, c1⟩, rfl, hs2.zero, Fresh.obl_ hs2, H6⟩
        · have E := Lib.hid (addF_yes HB1.out HB3.out)
          go_wp2_with fail
          go_ret2
          rw [E.out]
          exact ⟨⟨A5, _, c5⟩, rfl, ho6.zero, Fresh.obl_ ho6, H6⟩
      · by_cases hkc2 : k = c
        · subst hkc2
          go_wp2_with fail
          go_quiet (fail)
          have gb0 : wr.cell? ⟨w.heap.size, 0, none⟩ = some (.int .i64 f.id) := by rw [kr, k2, k1]; simp
          have gb1 : wr.cell? ⟨w.heap.size, 1, none⟩ = some (.int .i64 f.kind) := by rw [kr, k2, k1]; simp
          have gb2 : wr.cell? ⟨w.heap.size, 2, none⟩ = some (.string f.frm) := by rw [kr, k2, k1]; simp
          have gb3 : wr.cell? ⟨w.heap.size, 3, none⟩ = some (.string f.to) := by rw [kr, k2, k1]; simp
          have gb4 : wr.cell? ⟨w.heap.size, 4, none⟩ = some (.int .i64 f.pose.turn) := by rw [kr, k2, k1]; simp
          have gb5 : wr.cell? ⟨w.heap.size, 5, none⟩ = some (.int .i64 f.pose.x) := by rw [kr, k2, k1]; simp
          have gb6 : wr.cell? ⟨w.heap.size, 6, none⟩ = some (.int .i64 f.pose.y) := by rw [kr, k2, k1]; simp
          have gb7 : wr.cell? ⟨w.heap.size, 7, none⟩ = some (.int .i64 f.weight) := by rw [kr, k2, k1]; simp
          clear kr k2 k1
          have hkc : (k : Int) ≤ (k : Int) := by omega
          have hk00 : (0 : Int) ≤ (k : Int) := by omega
          have hrk : RdF wr ⟨some ⟨g, off, none⟩, k, k⟩ (l.take k) := Row.take_ (Row.below hr Hr) (by omega)
          have L40 := isFL_len HB1.out
          have L9 : l.length = k := hl.out
          go_wp2_with (first | (at_builtin; (refine wpList_append rfl (.tmp 32) (.tmp 35) 42 rfl wr.heap.size 133 8 80 i0 _ Try.underlying42 hii hq0 hq1 hq2 rfl (by omega) (some ⟨wr.heap.size, 0, none⟩) 0 0 [] rfl (made_any _ _ _ _ (by simp) (by simp)) (some ⟨g, off, none⟩) k k ((l.take k).map Factor.cells) rfl (Row.below hrk (by repeat (first | with_reducible exact Below.refl _ _ | with_reducible refine bAlloc ?_ _ | with_reducible refine bDrew ?_ | with_reducible refine bDrewN ?_ _))) one_F cell_F (by simp only [maxLen]; omega) (by omega) (by simp) ?_; intro A2 c2 w3 ho2 hg2 hat2; simp only [Nat.zero_add, List.nil_append] at ho2 ⊢; have kb := gBox hg2 w.heap.size (by first | omega | (simp; omega)) (fun q hq e => by simp [ob] at hq; omega); have z3 : w.heap.size + 1 ≤ w3.heap.size := (by have h9 := hg2.size; simp at h9; omega); have gc0 : w3.cell? ⟨w.heap.size, 0, none⟩ = some (.int .i64 f.id) := (kb 0).trans (bCell (by repeat (first | with_reducible exact Below.refl _ _ | with_reducible refine bAlloc ?_ _ | with_reducible refine bDrew ?_ | with_reducible refine bDrewN ?_ _)) gb0); have gc1 : w3.cell? ⟨w.heap.size, 1, none⟩ = some (.int .i64 f.kind) := (kb 1).trans (bCell (by repeat (first | with_reducible exact Below.refl _ _ | with_reducible refine bAlloc ?_ _ | with_reducible refine bDrew ?_ | with_reducible refine bDrewN ?_ _)) gb1); have gc2 : w3.cell? ⟨w.heap.size, 2, none⟩ = some (.string f.frm) := (kb 2).trans (bCell (by repeat (first | with_reducible exact Below.refl _ _ | with_reducible refine bAlloc ?_ _ | with_reducible refine bDrew ?_ | with_reducible refine bDrewN ?_ _)) gb2); have gc3 : w3.cell? ⟨w.heap.size, 3, none⟩ = some (.string f.to) := (kb 3).trans (bCell (by repeat (first | with_reducible exact Below.refl _ _ | with_reducible refine bAlloc ?_ _ | with_reducible refine bDrew ?_ | with_reducible refine bDrewN ?_ _)) gb3); have gc4 : w3.cell? ⟨w.heap.size, 4, none⟩ = some (.int .i64 f.pose.turn) := (kb 4).trans (bCell (by repeat (first | with_reducible exact Below.refl _ _ | with_reducible refine bAlloc ?_ _ | with_reducible refine bDrew ?_ | with_reducible refine bDrewN ?_ _)) gb4); have gc5 : w3.cell? ⟨w.heap.size, 5, none⟩ = some (.int .i64 f.pose.x) := (kb 5).trans (bCell (by repeat (first | with_reducible exact Below.refl _ _ | with_reducible refine bAlloc ?_ _ | with_reducible refine bDrew ?_ | with_reducible refine bDrewN ?_ _)) gb5); have gc6 : w3.cell? ⟨w.heap.size, 6, none⟩ = some (.int .i64 f.pose.y) := (kb 6).trans (bCell (by repeat (first | with_reducible exact Below.refl _ _ | with_reducible refine bAlloc ?_ _ | with_reducible refine bDrew ?_ | with_reducible refine bDrewN ?_ _)) gb6); have gc7 : w3.cell? ⟨w.heap.size, 7, none⟩ = some (.int .i64 f.weight) := (kb 7).trans (bCell (by repeat (first | with_reducible exact Below.refl _ _ | with_reducible refine bAlloc ?_ _ | with_reducible refine bDrew ?_ | with_reducible refine bDrewN ?_ _)) gb7); clear kb)) | (at_builtin; (refine wpList_append rfl (.tmp 37) (.tmp 39) 42 rfl wr.heap.size 133 8 80 i0 _ Try.underlying42 hii hq0 hq1 hq2 rfl (by omega) A2 (k) c2 _ rfl (ho2.alloc_ _) _ 1 1 [f.cells] rfl (Row.new1' _ _ f.cells 8 _ (by simp)) (by simp [Factor.cells]) (by simp [Factor.cells, Value.oneCell']) (by simp only [maxLen]; omega) (by omega) (by have h9 := hg2.size; simp at h9 ⊢; omega) ?_; intro A4 c4 w4 ho4 hg4 hat4; have Z4 : wr.heap.size ≤ w4.heap.size := (by have h8 := hg2.size; have h9 := hg4.size; simp at h8 h9; omega); have H4 : Below w.heap.size w w4 := bGrown (bAlloc (bGrown (show Below w.heap.size w _ from by repeat (first | with_reducible exact Hr | with_reducible refine bAlloc ?_ _ | with_reducible refine bDrew ?_ | with_reducible refine bDrewN ?_ _)) hg2 (fun q hq => by simp [ob] at hq; omega)) _) hg4 (fun q hq => by have h9 := (ho2.lt q hq).1; omega))) | (at_builtin; refine wpList_append rfl (.tmp 41) (.tmp 44) 42 rfl wr.heap.size 133 8 80 i0 _ Try.underlying42 hii hq0 hq1 hq2 rfl (by omega) A4 (k + 1) c4 _ rfl ho4 _ 0 _ [] rfl (Row.nil_ _ _ _) (by simp) (by simp) (by simp only [maxLen]; omega) (by omega) Z4 ?_; intro A5 c5 w5 ho5 hg5 hat5))
          have H5 := bGrown H4 hg5 (fun q hq => by have h9 := (ho4.lt q hq).1; omega)
          have hs1 : Own w5 w.heap.size 133 8 A1 k c1 (l.map Factor.cells) := same_kept ho1 (by repeat (first | with_reducible exact Below.refl _ _ | with_reducible refine bAlloc ?_ _ | with_reducible refine bDrew ?_ | with_reducible refine bDrewN ?_ _)) hg2 hg4 hg5 (fun q hq => by simp [ob] at hq; omega) (fun q hq => (ho2.lt q hq).1) (fun q hq => (ho4.lt q hq).1)
          have e6 : ((l.take k).map Factor.cells ++ [f.cells] ++ []) = (insF l f).map Factor.cells := by rw [insF, hat.out]; simp; first | omega | exact List.eq_nil_of_length_eq_zero L9 | (rw [List.eq_nil_of_length_eq_zero L9]; rfl)
          (try simp only [List.nil_append] at ho5)
          rw [e6] at ho5
          have hsm : smallFs (insF l f) := ins_small hs hfs
          generalize hb3 : isFL (insF l f) = b3
          have HB3 := Lib.hid hb3
          clear hb3
          go_wp2_with fail
          refine Calls.mono (spec_IsFactorList_c A5 _ c5 (insF l f) _ ?_ ho5.row hsm) ?_
          · omega
          rintro e w6 ⟨rfl, hk6⟩
          rw [HB3.out]
          have H6 := bTrans H5 hk6
          have ho6 := (ho5.below hk6).rebase (show w.heap.size ≤ wr.heap.size from Hr.size)
          cases b3
          · have E := Lib.hid (addF_bad HB3.out)
            have hs2 := hs1.below hk6
            go_wp2_with fail
            go_ret2
            rw [E.out]
            exact ⟨⟨A1, _, c1⟩, rfl, hs2.zero, Fresh.obl_ hs2, H6⟩
          · have E := Lib.hid (addF_yes HB1.out HB3.out)
            go_wp2_with fail
            go_ret2
            rw [E.out]
            exact ⟨⟨A5, _, c5⟩, rfl, ho6.zero, Fresh.obl_ ho6, H6⟩
        · have hkc3 : k < c := by omega
          go_wp2_with fail
          go_quiet (fail)
          have gb0 : wr.cell? ⟨w.heap.size, 0, none⟩ = some (.int .i64 f.id) := by rw [kr, k2, k1]; simp
          have gb1 : wr.cell? ⟨w.heap.size, 1, none⟩ = some (.int .i64 f.kind) := by rw [kr, k2, k1]; simp
          have gb2 : wr.cell? ⟨w.heap.size, 2, none⟩ = some (.string f.frm) := by rw [kr, k2, k1]; simp
          have gb3 : wr.cell? ⟨w.heap.size, 3, none⟩ = some (.string f.to) := by rw [kr, k2, k1]; simp
          have gb4 : wr.cell? ⟨w.heap.size, 4, none⟩ = some (.int .i64 f.pose.turn) := by rw [kr, k2, k1]; simp
          have gb5 : wr.cell? ⟨w.heap.size, 5, none⟩ = some (.int .i64 f.pose.x) := by rw [kr, k2, k1]; simp
          have gb6 : wr.cell? ⟨w.heap.size, 6, none⟩ = some (.int .i64 f.pose.y) := by rw [kr, k2, k1]; simp
          have gb7 : wr.cell? ⟨w.heap.size, 7, none⟩ = some (.int .i64 f.weight) := by rw [kr, k2, k1]; simp
          clear kr k2 k1
          have hkc : (k : Int) ≤ (c : Int) := by omega
          have hk00 : (0 : Int) ≤ (k : Int) := by omega
          have hrk : RdF wr ⟨some ⟨g, off, none⟩, k, c⟩ (l.take k) := Row.take_ (Row.below hr Hr) (by omega)
          have L40 := isFL_len HB1.out
          have L9 : l.length = k := hl.out
          go_wp2_with (first | (at_builtin; (refine wpList_append rfl (.tmp 32) (.tmp 35) 42 rfl wr.heap.size 133 8 80 i0 _ Try.underlying42 hii hq0 hq1 hq2 rfl (by omega) (some ⟨wr.heap.size, 0, none⟩) 0 0 [] rfl (made_any _ _ _ _ (by simp) (by simp)) (some ⟨g, off, none⟩) k c ((l.take k).map Factor.cells) rfl (Row.below hrk (by repeat (first | with_reducible exact Below.refl _ _ | with_reducible refine bAlloc ?_ _ | with_reducible refine bDrew ?_ | with_reducible refine bDrewN ?_ _))) one_F cell_F (by simp only [maxLen]; omega) (by omega) (by simp) ?_; intro A2 c2 w3 ho2 hg2 hat2; simp only [Nat.zero_add, List.nil_append] at ho2 ⊢; have kb := gBox hg2 w.heap.size (by first | omega | (simp; omega)) (fun q hq e => by simp [ob] at hq; omega); have z3 : w.heap.size + 1 ≤ w3.heap.size := (by have h9 := hg2.size; simp at h9; omega); have gc0 : w3.cell? ⟨w.heap.size, 0, none⟩ = some (.int .i64 f.id) := (kb 0).trans (bCell (by repeat (first | with_reducible exact Below.refl _ _ | with_reducible refine bAlloc ?_ _ | with_reducible refine bDrew ?_ | with_reducible refine bDrewN ?_ _)) gb0); have gc1 : w3.cell? ⟨w.heap.size, 1, none⟩ = some (.int .i64 f.kind) := (kb 1).trans (bCell (by repeat (first | with_reducible exact Below.refl _ _ | with_reducible refine bAlloc ?_ _ | with_reducible refine bDrew ?_ | with_reducible refine bDrewN ?_ _)) gb1); have gc2 : w3.cell? ⟨w.heap.size, 2, none⟩ = some (.string f.frm) := (kb 2).trans (bCell (by repeat (first | with_reducible exact Below.refl _ _ | with_reducible refine bAlloc ?_ _ | with_reducible refine bDrew ?_ | with_reducible refine bDrewN ?_ _)) gb2); have gc3 : w3.cell? ⟨w.heap.size, 3, none⟩ = some (.string f.to) := (kb 3).trans (bCell (by repeat (first | with_reducible exact Below.refl _ _ | with_reducible refine bAlloc ?_ _ | with_reducible refine bDrew ?_ | with_reducible refine bDrewN ?_ _)) gb3); have gc4 : w3.cell? ⟨w.heap.size, 4, none⟩ = some (.int .i64 f.pose.turn) := (kb 4).trans (bCell (by repeat (first | with_reducible exact Below.refl _ _ | with_reducible refine bAlloc ?_ _ | with_reducible refine bDrew ?_ | with_reducible refine bDrewN ?_ _)) gb4); have gc5 : w3.cell? ⟨w.heap.size, 5, none⟩ = some (.int .i64 f.pose.x) := (kb 5).trans (bCell (by repeat (first | with_reducible exact Below.refl _ _ | with_reducible refine bAlloc ?_ _ | with_reducible refine bDrew ?_ | with_reducible refine bDrewN ?_ _)) gb5); have gc6 : w3.cell? ⟨w.heap.size, 6, none⟩ = some (.int .i64 f.pose.y) := (kb 6).trans (bCell (by repeat (first | with_reducible exact Below.refl _ _ | with_reducible refine bAlloc ?_ _ | with_reducible refine bDrew ?_ | with_reducible refine bDrewN ?_ _)) gb6); have gc7 : w3.cell? ⟨w.heap.size, 7, none⟩ = some (.int .i64 f.weight) := (kb 7).trans (bCell (by repeat (first | with_reducible exact Below.refl _ _ | with_reducible refine bAlloc ?_ _ | with_reducible refine bDrew ?_ | with_reducible refine bDrewN ?_ _)) gb7); clear kb)) | (at_builtin; (refine wpList_append rfl (.tmp 37) (.tmp 39) 42 rfl wr.heap.size 133 8 80 i0 _ Try.underlying42 hii hq0 hq1 hq2 rfl (by omega) A2 (k) c2 _ rfl (ho2.alloc_ _) _ 1 1 [f.cells] rfl (Row.new1' _ _ f.cells 8 _ (by simp)) (by simp [Factor.cells]) (by simp [Factor.cells, Value.oneCell']) (by simp only [maxLen]; omega) (by omega) (by have h9 := hg2.size; simp at h9 ⊢; omega) ?_; intro A4 c4 w4 ho4 hg4 hat4; have Z4 : wr.heap.size ≤ w4.heap.size := (by have h8 := hg2.size; have h9 := hg4.size; simp at h8 h9; omega); have H4 : Below w.heap.size w w4 := bGrown (bAlloc (bGrown (show Below w.heap.size w _ from by repeat (first | with_reducible exact Hr | with_reducible refine bAlloc ?_ _ | with_reducible refine bDrew ?_ | with_reducible refine bDrewN ?_ _)) hg2 (fun q hq => by simp [ob] at hq; omega)) _) hg4 (fun q hq => by have h9 := (ho2.lt q hq).1; omega))) | (at_builtin; refine wpList_append rfl (.tmp 41) (.tmp 44) 42 rfl wr.heap.size 133 8 80 i0 _ Try.underlying42 hii hq0 hq1 hq2 rfl (by omega) A4 (k + 1) c4 _ rfl ho4 _ 0 _ [] rfl (Row.nil_ _ _ _) (by simp) (by simp) (by simp only [maxLen]; omega) (by omega) Z4 ?_; intro A5 c5 w5 ho5 hg5 hat5))
          have H5 := bGrown H4 hg5 (fun q hq => by have h9 := (ho4.lt q hq).1; omega)
          have hs1 : Own w5 w.heap.size 133 8 A1 k c1 (l.map Factor.cells) := same_kept ho1 (by repeat (first | with_reducible exact Below.refl _ _ | with_reducible refine bAlloc ?_ _ | with_reducible refine bDrew ?_ | with_reducible refine bDrewN ?_ _)) hg2 hg4 hg5 (fun q hq => by simp [ob] at hq; omega) (fun q hq => (ho2.lt q hq).1) (fun q hq => (ho4.lt q hq).1)
          have e6 : ((l.take k).map Factor.cells ++ [f.cells] ++ []) = (insF l f).map Factor.cells := by rw [insF, hat.out]; simp; first | omega | exact List.eq_nil_of_length_eq_zero L9 | (rw [List.eq_nil_of_length_eq_zero L9]; rfl)
          (try simp only [List.nil_append] at ho5)
          rw [e6] at ho5
          have hsm : smallFs (insF l f) := ins_small hs hfs
          generalize hb3 : isFL (insF l f) = b3
          have HB3 := Lib.hid hb3
          clear hb3
          go_wp2_with fail
          refine Calls.mono (spec_IsFactorList_c A5 _ c5 (insF l f) _ ?_ ho5.row hsm) ?_
          · omega
          rintro e w6 ⟨rfl, hk6⟩
          rw [HB3.out]
          have H6 := bTrans H5 hk6
          have ho6 := (ho5.below hk6).rebase (show w.heap.size ≤ wr.heap.size from Hr.size)
          cases b3
          · have E := Lib.hid (addF_bad HB3.out)
            have hs2 := hs1.below hk6
            go_wp2_with fail
            go_ret2
            rw [E.out]
            exact ⟨⟨A1, _, c1⟩, rfl, hs2.zero, Fresh.obl_ hs2, H6⟩
          · have E := Lib.hid (addF_yes HB1.out HB3.out)
            go_wp2_with fail
            go_ret2
            rw [E.out]
            exact ⟨⟨A5, _, c5⟩, rfl, ho6.zero, Fresh.obl_ ho6, H6⟩
end Go.Proofs.Ytadmeijogbljhaa
