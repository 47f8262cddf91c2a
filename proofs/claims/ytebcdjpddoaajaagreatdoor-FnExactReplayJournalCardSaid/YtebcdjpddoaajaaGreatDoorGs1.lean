/- Texts of this proof, one behind the other: Valid. -/
import Derived.Test.YtebcdjpddoaajaaGreatDoorGs0
/- What the two IsValidPose, IsValidFactor, IsValidPlace, IsValidEntry answer. -/
namespace Go.Proofs.YtebcdjpddoaajaaGreatDoor
open Go.RowKit
set_option linter.unusedVariables false
set_option linter.unusedSimpArgs false
set_option maxHeartbeats 400000

def inR (n lo hi : Int) : Bool := decide (lo ≤ n ∧ n ≤ hi)
theorem inR_iff {n lo hi : Int} : inR n lo hi = true ↔ lo ≤ n ∧ n ≤ hi := by simp [inR]
theorem l01In_c (n lo hi : Int) (w : World) : Calls Tryz.prog 102 #[.int .i64 n, .int .i64 lo, .int .i64 hi] w fun e w' => e = rBool (inR n lo hi) ∧ w = w' := by
  go_enter Tryz.func102, Tryz.ntmps102
  go_wp2
  all_goals (go_ret; refine ⟨ret_bool ?_, rfl⟩; unfold inR; rw [Bool.eq_iff_iff]; simp; try omega)
def vldPose (t x y : Int) : Bool := inR t 0 3 && (inR x (-1000000) 1000000 && inR y (-1000000) 1000000)
theorem spec_IsValidPose_c (t x y : Int) (w : World) : Calls Tryz.prog 105 #[vPose t x y] w fun e w' => e = rBool (vldPose t x y) ∧ Below w.heap.size w w' := by
  go_enter Tryz.func105, Tryz.ntmps105
  go_wp2
  all_goals (go_ret; refine ⟨ret_bool ?_, bAlloc (Below.refl _ _) _⟩; unfold vldPose inR; rw [Bool.eq_iff_iff]; simp; try omega)
theorem impl_IsValidPose_c (t x y : Int) (w : World) : Calls Tryz.prog 92 #[vPose t x y] w fun e w' => e = rBool (vldPose t x y) ∧ Below w.heap.size w w' := by
  go_enter Tryz.func92, Tryz.ntmps92
  go_wp2
  all_goals (go_ret; refine ⟨ret_bool ?_, bAlloc (Below.refl _ _) _⟩; unfold vldPose inR; rw [Bool.eq_iff_iff]; simp; try omega)

/-- valid, out of its parts: bp the pose, pf, pt, lt the names, fe: From is empty, ft: From is To -/
def vldF (bi bw : Bool) (kind turn : Int) (bp pf pt lt fe ft : Bool) : Bool :=
  bi && (bp && (bw &&
    (if kind = 1 then fe && pt else if kind = 2 ∨ kind = 4 then pf && (pt && !ft) else if kind = 3 then pf && (lt && (turn == 0)) else false)))
def vldFactor (f : Factor) : Bool := vldF (inR f.id 0 99999) (inR f.weight 1 9999) f.kind f.pose.turn (vldPose f.pose.turn f.pose.x f.pose.y) (isPoseNm f.frm) (isPoseNm f.to) (isLandNm f.to) f.frm.toList.isEmpty (f.frm.toList == f.to.toList)
theorem vldFactor_eq (id kind : Int) (fr to : ByteArray) (t x y wt : Int) : Hid (vldFactor ⟨id, kind, fr, to, ⟨t, x, y⟩, wt⟩ =
    vldF (inR id 0 99999) (inR wt 1 9999) kind t (vldPose t x y) (isPoseNm fr) (isPoseNm to) (isLandNm to) fr.toList.isEmpty (fr.toList == to.toList)) := rfl
theorem spec_IsValidFactor_c (id kind : Int) (fr to : ByteArray) (t x y wt : Int) (w : World) (hf : fr.size ≤ 1048576) (ht : to.size ≤ 1048576) :
    Calls Tryz.prog 76 #[vFactor id kind fr to t x y wt] w fun e w' => e = rBool (vldFactor ⟨id, kind, fr, to, ⟨t, x, y⟩, wt⟩) ∧ Below w.heap.size w w' := by
  have E := vldFactor_eq id kind fr to t x y wt
  generalize h1 : vldPose t x y = bp at E
  generalize h2 : isPoseNm fr = pf at E
  generalize h3 : isPoseNm to = pt at E
  generalize h4 : isLandNm to = lt at E
  generalize h5 : fr.toList.isEmpty = fe at E
  generalize h6 : (fr.toList == to.toList) = ft at E
  generalize h7 : inR id 0 99999 = bi at E
  generalize h8 : inR wt 1 9999 = bw at E
  have H1 := Lib.hid h1; have H2 := Lib.hid h2; have H3 := Lib.hid h3; have H4 := Lib.hid h4; have H7 := Lib.hid h7; have H8 := Lib.hid h8
  clear h1 h2 h3 h4 h7 h8
  go_enter Tryz.func76, Tryz.ntmps76
  go_wp2_with (first
    | (go_at_call 102; refine (l01In_c _ _ _ _).mono ?_; (first | rw [H7.out] | rw [H8.out]); rintro e w2 ⟨rfl, rfl⟩)
    | (go_at_call 105; refine (spec_IsValidPose_c _ _ _ _).mono ?_; rw [H1.out]; rintro e w1 ⟨rfl, hb1⟩; obtain ⟨hc, hfz⟩ := bcell hb1)
    | (go_at_call 106; refine (spec_IsPoseName_c _ _ (by assumption)).mono ?_; (first | rw [H2.out] | rw [H3.out]); rintro e w2 ⟨rfl, rfl⟩)
    | (go_at_call 107; refine (spec_IsLandmarkName_c _ _ (by assumption)).mono ?_; rw [H4.out]; rintro e w2 ⟨rfl, rfl⟩))
  all_goals (go_ret; refine ⟨ret_bool ?_, by repeat (first | exact Below.refl _ _ | refine bAlloc ?_ _ | refine bTrans ?_ hb1)⟩; rw [E.out]; unfold vldF; simp_all)
theorem impl_IsValidFactor_c (id kind : Int) (fr to : ByteArray) (t x y wt : Int) (w : World) (hf : fr.size ≤ 1048576) (ht : to.size ≤ 1048576) :
    Calls Tryz.prog 66 #[vFactor id kind fr to t x y wt] w fun e w' => e = rBool (vldFactor ⟨id, kind, fr, to, ⟨t, x, y⟩, wt⟩) ∧ Below w.heap.size w w' := by
  have E := vldFactor_eq id kind fr to t x y wt
  generalize h1 : vldPose t x y = bp at E
  generalize h2 : isPoseNm fr = pf at E
  generalize h3 : isPoseNm to = pt at E
  generalize h4 : isLandNm to = lt at E
  generalize h5 : fr.toList.isEmpty = fe at E
  generalize h6 : (fr.toList == to.toList) = ft at E
  have H1 := Lib.hid h1; have H2 := Lib.hid h2; have H3 := Lib.hid h3; have H4 := Lib.hid h4
  clear h1 h2 h3 h4
  go_enter Tryz.func66, Tryz.ntmps66
  go_wp2_with (first
    | (go_at_call 92; refine (impl_IsValidPose_c _ _ _ _).mono ?_; rw [H1.out]; rintro e w1 ⟨rfl, hb1⟩; obtain ⟨hc, hfz⟩ := bcell hb1)
    | (go_at_call 93; refine (impl_IsPoseName_c _ _ (by assumption)).mono ?_; (first | rw [H2.out] | rw [H3.out]); rintro e w2 ⟨rfl, rfl⟩)
    | (go_at_call 94; refine (impl_IsLandmarkName_c _ _ (by assumption)).mono ?_; rw [H4.out]; rintro e w2 ⟨rfl, rfl⟩))
  all_goals (go_ret; refine ⟨ret_bool ?_, by repeat (first | exact Below.refl _ _ | refine bAlloc ?_ _ | refine bTrans ?_ hb1)⟩; rw [E.out]; unfold vldF inR; first | (simp_all; done) | (simp_all; omega))

def vldPlace (p : Place) : Bool := isPoseNm p.name && inR p.bits 0 1073741823
def Factor.isZero (f : Factor) : Bool := (f.id == 0) && ((f.kind == 0) && (f.frm.toList.isEmpty && (f.to.toList.isEmpty && ((f.pose.turn == 0) && ((f.pose.x == 0) && ((f.pose.y == 0) && (f.weight == 0)))))))
def vldEntry (e : Entry) : Bool := if e.remove then inR e.id 0 99999 && e.factor.isZero else (e.id == 0) && vldFactor e.factor

theorem spec_IsValidEntry_c (rm : Bool) (eid id kind : Int) (fr to : ByteArray) (t x y wt : Int) (w : World) (hf : fr.size ≤ 1048576) (ht : to.size ≤ 1048576) :
    Calls Tryz.prog 101 #[vEntry rm eid id kind fr to t x y wt] w fun e w' => e = rBool (vldEntry ⟨rm, eid, ⟨id, kind, fr, to, ⟨t, x, y⟩, wt⟩⟩) ∧ Below w.heap.size w w' := by
  have E : Hid (vldEntry ⟨rm, eid, ⟨id, kind, fr, to, ⟨t, x, y⟩, wt⟩⟩ = if rm then inR eid 0 99999 && Factor.isZero ⟨id, kind, fr, to, ⟨t, x, y⟩, wt⟩ else (eid == 0) && vldFactor ⟨id, kind, fr, to, ⟨t, x, y⟩, wt⟩) := rfl
  generalize h1 : vldFactor ⟨id, kind, fr, to, ⟨t, x, y⟩, wt⟩ = vf at E
  generalize h7 : inR eid 0 99999 = bi at E
  have H1 := Lib.hid h1; have H7 := Lib.hid h7
  clear h1 h7
  cases rm
  all_goals
    go_enter Tryz.func101, Tryz.ntmps101
    go_wp2_with (first
      | (go_at_call 102; refine (l01In_c _ _ _ _).mono ?_; rw [H7.out]; rintro e w2 ⟨rfl, rfl⟩)
      | (go_at_call 76; refine (spec_IsValidFactor_c _ _ _ _ _ _ _ _ _ hf ht).mono ?_; rw [H1.out]; rintro e w1 ⟨rfl, hb1⟩))
    all_goals (go_ret; refine ⟨ret_bool ?_, by repeat (first | exact Below.refl _ _ | refine bAlloc ?_ _ | refine bTrans ?_ hb1)⟩; rw [E.out]; simp_all [Factor.isZero])
theorem impl_IsValidEntry_c (rm : Bool) (eid id kind : Int) (fr to : ByteArray) (t x y wt : Int) (w : World) (hf : fr.size ≤ 1048576) (ht : to.size ≤ 1048576) :
    Calls Tryz.prog 41 #[vEntry rm eid id kind fr to t x y wt] w fun e w' => e = rBool (vldEntry ⟨rm, eid, ⟨id, kind, fr, to, ⟨t, x, y⟩, wt⟩⟩) ∧ Below w.heap.size w w' := by
  have E : Hid (vldEntry ⟨rm, eid, ⟨id, kind, fr, to, ⟨t, x, y⟩, wt⟩⟩ = if rm then inR eid 0 99999 && Factor.isZero ⟨id, kind, fr, to, ⟨t, x, y⟩, wt⟩ else (eid == 0) && vldFactor ⟨id, kind, fr, to, ⟨t, x, y⟩, wt⟩) := rfl
  generalize h1 : vldFactor ⟨id, kind, fr, to, ⟨t, x, y⟩, wt⟩ = vf at E
  have H1 := Lib.hid h1
  clear h1
  cases rm
  all_goals
    go_enter Tryz.func41, Tryz.ntmps41
    go_wp2_with (first
      | (go_at_call 66; refine (impl_IsValidFactor_c _ _ _ _ _ _ _ _ _ hf ht).mono ?_; rw [H1.out]; rintro e w1 ⟨rfl, hb1⟩))
    all_goals (go_ret; refine ⟨ret_bool ?_, by repeat (first | exact Below.refl _ _ | refine bAlloc ?_ _ | refine bTrans ?_ hb1)⟩; first | (rw [E.out]; simp_all [Factor.isZero, inR]; done) | (rw [E.out]; simp_all [Factor.isZero, inR]; omega) | (simp_all [vldEntry, Factor.isZero, inR]; done) | (simp_all [vldEntry, Factor.isZero, inR]; omega))
end Go.Proofs.YtebcdjpddoaajaaGreatDoor
