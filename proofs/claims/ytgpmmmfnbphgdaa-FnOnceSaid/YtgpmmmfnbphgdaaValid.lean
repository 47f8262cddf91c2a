/- What the two IsValidPose, IsValidFactor, IsValidPlace, IsValidEntry answer. -/
import Derived.Test.YtgpmmmfnbphgdaaNames
namespace Go.Proofs.Ytgpmmmfnbphgdaa
open Go.RowKit
set_option linter.unusedVariables false
set_option linter.unusedSimpArgs false
set_option maxHeartbeats 400000

def inR (n lo hi : Int) : Bool := decide (lo ≤ n ∧ n ≤ hi)
theorem inR_iff {n lo hi : Int} : inR n lo hi = true ↔ lo ≤ n ∧ n ≤ hi := by simp [inR]
theorem l01In_c (n lo hi : Int) (w : World) : Calls Try.prog 43 #[.int .i64 n, .int .i64 lo, .int .i64 hi] w fun e w' => e = rBool (inR n lo hi) ∧ w = w' := by
  go_enter Try.func43, Try.ntmps43
  go_wp2
  all_goals (go_ret; refine ⟨ret_bool ?_, rfl⟩; unfold inR; rw [Bool.eq_iff_iff]; simp; try omega)
def vldPose (t x y : Int) : Bool := inR t 0 3 && (inR x (-1000000) 1000000 && inR y (-1000000) 1000000)
theorem spec_IsValidPose_c (t x y : Int) (w : World) : Calls Try.prog 41 #[vPose t x y] w fun e w' => e = rBool (vldPose t x y) ∧ Below w.heap.size w w' := by
  go_enter Try.func41, Try.ntmps41
  go_wp2
  all_goals (go_ret; refine ⟨ret_bool ?_, bAlloc (Below.refl _ _) _⟩; unfold vldPose inR; rw [Bool.eq_iff_iff]; simp; try omega)
theorem impl_IsValidPose_c (t x y : Int) (w : World) : Calls Try.prog 25 #[vPose t x y] w fun e w' => e = rBool (vldPose t x y) ∧ Below w.heap.size w w' := by
  go_enter Try.func25, Try.ntmps25
  go_wp2
  all_goals (go_ret; refine ⟨ret_bool ?_, bAlloc (Below.refl _ _) _⟩; unfold vldPose inR; rw [Bool.eq_iff_iff]; simp; try omega)

/-- valid, out of its parts: bp the pose, pf, pt, lt the names, fe: From is empty, ft: From is To -/
def vldF (bi bw : Bool) (kind turn : Int) (bp pf pt lt fe ft : Bool) : Bool :=
  bi && (bp && (bw &&
    (if kind = 1 then fe && pt else if kind = 2 ∨ kind = 4 then pf && (pt && !ft) else if kind = 3 then pf && (lt && (turn == 0)) else false)))
def vldFactor (f : Factor) : Bool := vldF (inR f.id 0 99999) (inR f.weight 1 9999) f.kind f.pose.turn (vldPose f.pose.turn f.pose.x f.pose.y) (isPoseNm f.frm) (isPoseNm f.to) (isLandNm f.to) f.frm.toList.isEmpty (f.frm.toList == f.to.toList)
theorem vldFactor_eq (id kind : Int) (fr to : ByteArray) (t x y wt : Int) : Hid (vldFactor ⟨id, kind, fr, to, ⟨t, x, y⟩, wt⟩ =
    vldF (inR id 0 99999) (inR wt 1 9999) kind t (vldPose t x y) (isPoseNm fr) (isPoseNm to) (isLandNm to) fr.toList.isEmpty (fr.toList == to.toList)) := rfl
theorem impl_IsValidFactor_c (id kind : Int) (fr to : ByteArray) (t x y wt : Int) (w : World) (hf : fr.size ≤ 1048576) (ht : to.size ≤ 1048576) :
    Calls Try.prog 15 #[vFactor id kind fr to t x y wt] w fun e w' => e = rBool (vldFactor ⟨id, kind, fr, to, ⟨t, x, y⟩, wt⟩) ∧ Below w.heap.size w w' := by
  have E := vldFactor_eq id kind fr to t x y wt
  generalize h1 : vldPose t x y = bp at E
  generalize h2 : isPoseNm fr = pf at E
  generalize h3 : isPoseNm to = pt at E
  generalize h4 : isLandNm to = lt at E
  generalize h5 : fr.toList.isEmpty = fe at E
  generalize h6 : (fr.toList == to.toList) = ft at E
  have H1 := Lib.hid h1; have H2 := Lib.hid h2; have H3 := Lib.hid h3; have H4 := Lib.hid h4
  clear h1 h2 h3 h4
  go_enter Try.func15, Try.ntmps15
  go_wp2_with (first
    | (go_at_call 25; refine (impl_IsValidPose_c _ _ _ _).mono ?_; rw [H1.out]; rintro e w1 ⟨rfl, hb1⟩; obtain ⟨hc, hfz⟩ := bcell hb1)
    | (go_at_call 26; refine (impl_IsPoseName_c _ _ (by assumption)).mono ?_; (first | rw [H2.out] | rw [H3.out]); rintro e w2 ⟨rfl, rfl⟩)
    | (go_at_call 27; refine (impl_IsLandmarkName_c _ _ (by assumption)).mono ?_; rw [H4.out]; rintro e w2 ⟨rfl, rfl⟩))
  all_goals (go_ret; refine ⟨ret_bool ?_, by repeat (first | exact Below.refl _ _ | refine bAlloc ?_ _ | refine bTrans ?_ hb1)⟩; rw [E.out]; unfold vldF inR; first | (simp_all; done) | (simp_all; omega))

def vldPlace (p : Place) : Bool := isPoseNm p.name && inR p.bits 0 1073741823
def Factor.isZero (f : Factor) : Bool := (f.id == 0) && ((f.kind == 0) && (f.frm.toList.isEmpty && (f.to.toList.isEmpty && ((f.pose.turn == 0) && ((f.pose.x == 0) && ((f.pose.y == 0) && (f.weight == 0)))))))
def vldEntry (e : Entry) : Bool := if e.remove then inR e.id 0 99999 && e.factor.isZero else (e.id == 0) && vldFactor e.factor

end Go.Proofs.Ytgpmmmfnbphgdaa
