/- NewConsole: what the two of it answer; the walk of its law. -/
import Derived.Test.YtolkhkkkfpaenaaEq
import Derived.Test.YtolkhkkkfpaenaaMark
import Derived.Test.YtolkhkkkfpaenaaLaw
namespace Go.Proofs.Ytolkhkkkfpaenaa
open Go.RowKit
set_option linter.unusedVariables false
set_option linter.unusedSimpArgs false
set_option maxHeartbeats 800000
set_option maxRecDepth 100000
abbrev vConsole (A : Option Addr) (n c : Nat) (j : ByteArray) (lim lev : Int) : Value := .agg #[.slice A n c, .string j, .int .i64 lim, .int .i64 lev]
theorem spec_NewConsole_c (w : World) : Calls Try.prog 44 #[] w fun e w' => e = .returned (vConsole none 0 0 ⟨#[]⟩ 2 99) ∧ Below w.heap.size w w' := by
  go_enter Try.func44, Try.ntmps44
  go_wp2
  exact bodyPost_ret (v := vConsole none 0 0 ⟨#[]⟩ 2 99) (by simp [results, Try.results44, go_sem]) rfl ⟨rfl, by repeat (first | exact Below.refl _ _ | refine bAlloc ?_ _)⟩
theorem impl_NewConsole_c (w : World) : Calls Try.prog 45 #[] w fun e w' => e = .returned (vConsole none 0 0 ⟨#[]⟩ 2 99) ∧ Below w.heap.size w w' := by
  go_enter Try.func45, Try.ntmps45
  go_wp2
  exact bodyPost_ret (v := vConsole none 0 0 ⟨#[]⟩ 2 99) (by simp [results, Try.results45, go_sem]) rfl ⟨rfl, by repeat (first | exact Below.refl _ _ | refine bAlloc ?_ _)⟩
theorem eqConsole_c (A A2 : Option Addr) (n c c2 : Nat) (l : List Factor) (j : ByteArray) (lim lev : Int) (w : World) (hn : n ≤ 1048576) (hr : RowF w A n l) (hr2 : RowF w A2 n l) :
    Calls Try.prog 46 #[vConsole A n c j lim lev, vConsole A2 n c2 j lim lev] w fun e w' => e = rBool true ∧ Below w.heap.size w w' := by
  go_enter Try.func46, Try.ntmps46
  go_wp2_with fail
  refine (eqFactorS_c A A2 n c c2 l _ hn (hr.below (bAlloc (bAlloc (Below.refl _ _) _) _)) (hr2.below (bAlloc (bAlloc (Below.refl _ _) _) _))).mono ?_
  rintro e w1 ⟨rfl, hb1⟩
  have k0 := bBox hb1 w.heap.size (by first | (simp; done) | (simp; omega))
  have k1 := bBox hb1 (w.heap.size + 1) (by first | (simp; done) | (simp; omega))
  go_wp2
  go_ret
  exact ⟨rfl, bTrans (bAlloc (bAlloc (Below.refl _ _) _) _) hb1⟩
theorem markConsole_c (A : Option Addr) (n c B : Nat) (css : List (List Value)) (j : ByteArray) (lim lev k0 : Int) (w : World) (hn : n ≤ 1048576) (hk0 : 0 ≤ k0) (hk1 : k0 ≤ 100000000000) (ho : Own w B 60 8 A n c css) :
    Calls Try.prog 47 #[vConsole A n c j lim lev, .int .i64 k0] w fun e w' => e = rInt (k0 + 8 * n) ∧ Own w' B 60 8 A n c ((List.range n).map (markFactor k0)) ∧ w.grownBy w' (ob A) := by
  go_enter Try.func47, Try.ntmps47
  go_wp2_with fail
  refine (markFactorS_c A n c B css k0 _ hn hk0 hk1 (ho.alloc_ _)).mono ?_
  rintro e w1 ⟨rfl, ho1, hg1⟩
  go_wp2
  go_ret
  exact ⟨rfl, ho1, gTrans (gBelow0 (bAlloc (Below.refl _ _) _) _) hg1⟩
theorem heldConsole_c (A : Option Addr) (n c : Nat) (j : ByteArray) (lim lev k0 : Int) (w : World) (hn : n ≤ 1048576) (hk0 : 0 ≤ k0) (hk1 : k0 ≤ 100000000000) (hr : Row w A n 8 ((List.range n).map (markFactor k0))) :
    Calls Try.prog 48 #[vConsole A n c j lim lev, .int .i64 k0] w fun e w' => e = rInt (k0 + 8 * n) ∧ Below w.heap.size w w' := by
  go_enter Try.func48, Try.ntmps48
  go_wp2_with fail
  refine (heldFactorS_c A n c k0 _ hn hk0 hk1 (hr.below (bAlloc (Below.refl _ _) _))).mono ?_
  rintro e w1 ⟨rfl, hb1⟩
  have hp : 0 ≤ k0 + 8 * (n : Int) := by omega
  go_wp2
  go_ret
  exact ⟨rfl, bTrans (bAlloc (Below.refl _ _) _) hb1⟩

theorem w_FnExactNewConsole (W : World) : Calls Try.prog 12 #[] W fun e w' => e = rBool true ∧ Below W.heap.size W w' := by
  have hrow : ∀ w, RowF w none 0 [] := fun w => ⟨rfl, fun i cs hi => by simp at hi⟩
  have hown : ∀ w, Own w w.heap.size 60 8 none 0 0 [] := fun w => Own.nil_ w _ _ _
  go_enter Try.func12, Try.ntmps12
  go_wp2_with fail
  refine (spec_NewConsole_c _).mono ?_
  rintro e w1 ⟨rfl, hb1⟩
  have H := hb1
  go_wp2_with fail
  refine (impl_NewConsole_c _).mono ?_
  rintro e w2 ⟨rfl, hb2⟩
  have H := bTrans (bAlloc H _) hb2
  have ka2 := bBox hb2 w1.heap.size (by first | (simp; done) | (simp; omega) | omega)
  have hz2 := bsz1 hb2
  have la2 : w1.heap.size < w2.heap.size := by omega
  go_wp2_with fail
  refine (eqConsole_c none none 0 0 0 [] _ _ _ _ (by omega) (hrow _) (hrow _)).mono ?_
  rintro e w3 ⟨rfl, hb3⟩
  have H := bTrans (bAlloc H _) hb3
  have ka3 := bBox hb3 w1.heap.size (by first | (simp; done) | (simp; omega) | omega)
  have kc3 := bBox hb3 w2.heap.size (by first | (simp; done) | (simp; omega) | omega)
  have hz3 := bsz1 hb3
  have la3 : w1.heap.size < w3.heap.size := by omega
  have lc3 : w2.heap.size < w3.heap.size := by omega
  go_wp2_with fail
  refine (markConsole_c none 0 0 _ [] _ _ _ 1 _ (by omega) (by omega) (by omega) (hown _)).mono ?_
  rintro e w4 ⟨rfl, _, hg4⟩
  have hb4 : Below w3.heap.size w3 w4 := ⟨hg4.os, hg4.tape, hg4.output, hg4.size, fun k hk => hg4.block k hk (by simp [ob])⟩
  have H := bTrans H hb4
  have ka4 := bBox hb4 w1.heap.size (by first | (simp; done) | (simp; omega) | omega)
  have kc4 := bBox hb4 w2.heap.size (by first | (simp; done) | (simp; omega) | omega)
  have hz4 : w3.heap.size ≤ w4.heap.size := hb4.size
  have la4 : w1.heap.size < w4.heap.size := by omega
  have lc4 : w2.heap.size < w4.heap.size := by omega
  go_wp2_with fail
  refine (heldConsole_c none 0 0 _ _ _ 1 _ (by omega) (by omega) (by omega) ⟨rfl, fun i cs hi => by simp at hi⟩).mono ?_
  rintro e w5 ⟨rfl, hb5⟩
  have H := bTrans H hb5
  have ka5 := bBox hb5 w1.heap.size (by first | (simp; done) | (simp; omega) | omega)
  have kc5 := bBox hb5 w2.heap.size (by first | (simp; done) | (simp; omega) | omega)
  have hz5 : w4.heap.size ≤ w5.heap.size := hb5.size
  have la5 : w1.heap.size < w5.heap.size := by omega
  have lc5 : w2.heap.size < w5.heap.size := by omega
  go_wp2_with fail
  refine (impl_NewConsole_c _).mono ?_
  rintro e w6 ⟨rfl, hb6⟩
  have H := bTrans H hb6
  have ka6 := bBox hb6 w1.heap.size (by first | (simp; done) | (simp; omega) | omega)
  have kc6 := bBox hb6 w2.heap.size (by first | (simp; done) | (simp; omega) | omega)
  have hz6 : w5.heap.size ≤ w6.heap.size := hb6.size
  have la6 : w1.heap.size < w6.heap.size := by omega
  have lc6 : w2.heap.size < w6.heap.size := by omega
  go_wp2_with fail
  refine (eqConsole_c none none 0 0 0 [] _ _ _ _ (by omega) (hrow _) (hrow _)).mono ?_
  rintro e w7 ⟨rfl, hb7⟩
  have H := bTrans (bAlloc H _) hb7
  have kc7 := bBox hb7 w2.heap.size (by first | (simp; done) | (simp; omega) | omega)
  have hz7 := bsz1 hb7
  have la7 : w1.heap.size < w7.heap.size := by omega
  have lc7 : w2.heap.size < w7.heap.size := by omega
  go_wp2_with fail
  refine (heldConsole_c none 0 0 _ _ _ 1 _ (by omega) (by omega) (by omega) ⟨rfl, fun i cs hi => by simp at hi⟩).mono ?_
  rintro e w8 ⟨rfl, hb8⟩
  have H := bTrans H hb8
  go_wp2_with fail
  go_ret
  exact ⟨rfl, H⟩
end Go.Proofs.Ytolkhkkkfpaenaa
