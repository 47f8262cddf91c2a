/- The walk of the law on a bundle that is merged twice. -/
import Derived.Test.YtgpmmmfnbphgdaaDraw7
import Derived.Test.YtgpmmmfnbphgdaaDraw5
import Derived.Test.YtgpmmmfnbphgdaaMerge
import Derived.Test.YtgpmmmfnbphgdaaBun
namespace Go.Proofs.Ytgpmmmfnbphgdaa
open Go.RowKit
set_option linter.unusedVariables false
set_option linter.unusedSimpArgs false
set_option maxHeartbeats 1600000
set_option maxRecDepth 100000
theorem smallFs_fl {l : List Factor} (h : isFL l = true) : ∀ f ∈ l, f.frm.size ≤ 1048576 ∧ f.to.size ≤ 1048576 := bulkF_small (isFL_bulk h)
theorem w_FnOnce (W : World) (A : Option Addr) (n c : Nat) (hm : n ≤ maxLen) (hy : Bytes W A n) :
    Calls Try.prog 3 #[.slice A n c] W fun e w' => e = rBool true ∧ Below W.heap.size W w' := by
  by_cases hn : n ≤ 1048576
  rotate_left
  · have hn' : (1048576 : Int) < (n : Int) := by omega
    go_enter Try.func3, Try.ntmps3
    go_wp2
    go_ret
    exact ⟨rfl, Below.refl _ _⟩
  have hn' : decide ((1048576 : Int) < (n : Int)) = false := by simp; omega
  have hy' := Lib.hid hy
  clear hy hm
  go_enter Try.func3, Try.ntmps3
  go_wp2_with fail
  refine Calls.mono (MakeShared_c (W := W) (c := c) (Below.refl _ _) hy'.out hn) ?_
  rintro e w1 ⟨v, l, rfl, hfl, hpos, ho, hf, hb1⟩
  have FL := Lib.hid hfl
  clear hfl hf
  go_wp2_with fail
  refine Calls.mono (MakeBundle_c (W := W) (w := w1) (c := c) hb1 hy'.out hn) ?_
  rintro e w2 ⟨vb, bb, rfl, hbd, hob, hfb, hb2⟩
  have BD := Lib.hid hbd
  obtain ⟨g1, g2, g3, g4⟩ := once_law FL.out hbd
  have G1 := Lib.hid g1; have G2 := Lib.hid g2; have G3 := Lib.hid g3; have G4 := Lib.hid g4
  have H2 := bTrans hb1 hb2
  have ho2 := ho.below hb2
  clear hbd g1 g2 g3 g4 hfb ho
  have LEN : Hid (l.length = v.n) := ho2.rd.len
  generalize hM : (mergeB l bb.robot bb.factors).1 = M at G1 G2 G3 G4
  generalize hX : (mergeB l bb.robot bb.factors).2.length = X at G3 G4
  have HM := Lib.hid hM; have HX := Lib.hid hX
  clear hM hX
  go_wp2_with fail
  refine Calls.mono (impl_MergeBundle_k v l vb bb _ (isFL_bulk FL.out) (isFL_ok FL.out) ?_ (isBundle_bulk BD.out) ⟨isBundle_r BD.out, isBundle_ok BD.out⟩ ?_) ?_
  · exact ho2.rd.below (bAlloc (Below.refl _ _) _)
  · exact hob.rd.below (bAlloc (Below.refl _ _) _)
  rw [HM.out, HX.out]
  rintro e w3 ⟨vm, rfl, hom, hfm, hb3⟩
  have LENM : Hid (M.length = vm.n) := hom.rd.len
  have K3 : Below w2.heap.size w2 w3 := bTrans (bAlloc (Below.refl _ _) _) hb3
  have kb3 := bBox hb3 w2.heap.size (by simp)
  have hz3 : w2.heap.size < w3.heap.size := by have := hb3.size; simp at this; omega
  have H3 := bTrans H2 K3
  have ho3 := ho2.below K3
  have hob3 : OwF w3 vb bb.factors := OwF.below hob K3
  clear ho2 hob hb3 K3 hfm
  go_wp2_with fail
  refine Calls.mono (impl_MergeBundle_k vm M vb bb _ (isFL_bulk G1.out) (isFL_ok G1.out) ?_ (isBundle_bulk BD.out) ⟨isBundle_r BD.out, isBundle_ok BD.out⟩ ?_) ?_
  · exact hom.rd
  · exact hob3.rd
  rw [G2.out]
  rintro e w4 ⟨vk, rfl, hok, hfk, hb4⟩
  have kb4 := bBox hb4 w2.heap.size hz3
  have hz4 : w2.heap.size < w4.heap.size := by have := hb4.size; omega
  have H4 := bTrans H3 hb4
  have ho4 := ho3.below hb4
  have hob4 : OwF w4 vb bb.factors := OwF.below hob3 hb4
  have hom4 := hom.below hb4
  clear ho3 hob3 hom hfk
  go_wp2_with fail
  refine Calls.mono (impl_IsValidBundle_k vb bb _ (isBundle_bulk BD.out) ⟨isBundle_r BD.out, isBundle_ok BD.out⟩ ?_) ?_
  · exact hob4.rd
  rw [BD.out]
  rintro e w5 ⟨rfl, hb5⟩
  have H5 := bTrans H4 hb5
  have ho5 := ho4.below hb5
  have hom5 := hom4.below hb5
  have hok5 := OwF.below hok hb5
  clear ho4 hom4 hok hob4
  have hvm : vm.n ≤ 1048576 := by have := isFL_len G1.out; have := LENM.out; omega
  have hvl : v.n ≤ 1048576 := by have := isFL_len FL.out; have := LEN.out; omega
  have LENK : Hid (M.length = vk.n) := hok5.rd.len
  have hvk : vk.n ≤ 1048576 := by have := isFL_len G1.out; have := LENK.out; omega
  go_wp2_with fail
  refine Calls.mono (impl_IsFactorList_c vm.A vm.n vm.c M _ hvm ?_ (smallFs_fl G1.out)) ?_
  · exact hom5.rd
  rw [G1.out]
  rintro e w6 ⟨rfl, hb6⟩
  have H6 := bTrans H5 hb6
  have ho6 := ho5.below hb6
  have hom6 := hom5.below hb6
  have hok6 := OwF.below hok5 hb6
  clear ho5 hom5 hok5
  go_wp2_with fail
  refine Calls.mono (impl_SameFactors_c vm.A vk.A vm.n vk.n vm.c vk.c M M _ hvm hvk ?_ ?_) ?_
  · exact hom6.rd
  · exact hok6.rd
  rw [sameL_refl M]
  rintro e w7 ⟨rfl, hb7⟩
  have H7 := bTrans H6 hb7
  have ho7 := ho6.below hb7
  have hom7 := hom6.below hb7
  clear ho6 hom6 hok6
  go_wp2_with fail
  refine Calls.mono (impl_MissingIds_c v.A vm.A v.n vm.n v.c vm.c l M _ hvl hvm ?_ ?_) ?_
  · exact ho7.rd
  · exact hom7.rd
  rintro e w8 ⟨A8, n8, c8, rfl, ho8, hb8, hn8⟩
  have H8 := bTrans H7 hb8
  have e8 : (n8 : Int) = (X : Int) := by have h1 := ho8.len; rw [List.length_map] at h1; have := G3.out; omega
  have e9 : (vm.n : Int) = (v.n : Int) + (X : Int) := by have h1 := G4.out; have := LEN.out; have := LENM.out; omega
  have hx0 : X ≤ 1048576 := by have := isFL_len G1.out; have := G4.out; omega
  clear ho8
  go_wp2_with fail
  go_ret
  exact ⟨rfl, H8⟩
end Go.Proofs.Ytgpmmmfnbphgdaa
