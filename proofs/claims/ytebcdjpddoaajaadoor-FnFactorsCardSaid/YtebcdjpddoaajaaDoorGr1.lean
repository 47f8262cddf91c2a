/- Texts of this proof, one behind the other: Names. -/
import Derived.Test.YtebcdjpddoaajaaDoorProg
import Derived.Test.YtebcdjpddoaajaaDoorGr0
/- Names: what the two IsName, IsPoseName and IsLandmarkName answer. -/
namespace Go.Proofs.YtebcdjpddoaajaaDoor
open Go.RowKit
set_option linter.unusedVariables false
set_option linter.unusedSimpArgs false
set_option maxHeartbeats 400000

def okByte (b : UInt8) (first : Bool) : Bool := decide (97 ≤ (b.toNat : Int) ∧ (b.toNat : Int) ≤ 122) || (!first && decide (48 ≤ (b.toNat : Int) ∧ (b.toNat : Int) ≤ 57))
theorem okByte_no {b : UInt8} {first : Bool} (h : ¬ okByte b first = true) : ¬ (97 ≤ (b.toNat : Int) ∧ (b.toNat : Int) ≤ 122) ∧ (first = false → ¬ (48 ≤ (b.toNat : Int) ∧ (b.toNat : Int) ≤ 57)) := by
  unfold okByte at h
  simp only [Bool.or_eq_true, Bool.and_eq_true, Bool.not_eq_true', decide_eq_true_eq] at h
  exact ⟨fun k => h (.inl k), fun hf k => h (.inr ⟨hf, k⟩)⟩
def namL : List UInt8 → Bool → Bool
  | [], _ => true
  | b :: r, first => okByte b first && namL r false
def isNm (s : ByteArray) : Bool := decide (1 ≤ s.size ∧ s.size ≤ 8) && namL s.data.toList true
def NmInv (s : ByteArray) (k : Nat) : Prop := namL s.data.toList true = namL (s.data.toList.drop k) (k == 0)
theorem NmInv.start (s : ByteArray) : NmInv s 0 := rfl
theorem sdrop (s : ByteArray) {k : Nat} (hk : k < s.size) : s.data.toList.drop k = s[k] :: s.data.toList.drop (k + 1) := by
  have h : k < s.data.toList.length := by simpa using hk
  rw [List.drop_eq_getElem_cons h]; rfl
theorem NmInv.next {s : ByteArray} {k : Nat} (h : NmInv s k) (hk : k < s.size) (hb : okByte s[k] (k == 0) = true) : NmInv s (k + 1) := by
  unfold NmInv at *
  rw [h, sdrop s hk, namL, hb, Bool.true_and]
  rfl
theorem NmInv.no {s : ByteArray} {k : Nat} (h : NmInv s k) (hk : k < s.size) (hb : okByte s[k] (k == 0) = false) : isNm s = false := by
  unfold NmInv at h
  rw [isNm, h, sdrop s hk, namL, hb, Bool.false_and, Bool.and_false]
theorem NmInv.yes {s : ByteArray} {k : Nat} (h : NmInv s k) (hk : ¬ k < s.size) : isNm s = decide (1 ≤ s.size ∧ s.size ≤ 8) := by
  unfold NmInv at h
  rw [isNm, h, List.drop_eq_nil_of_le (by simp; omega), namL, Bool.and_true]

theorem spec_IsName_c (s : ByteArray) (w : World) (hs : s.size ≤ 1048576) : Calls Tryd.prog 146 #[.string s] w fun e w' => e = rBool (isNm s) ∧ w = w' := by
  go_enter Tryd.func146, Tryd.ntmps146
  go_wp2
  go_loop [3, 4] (fun i t => ∃ (k : Nat), k ≤ s.size ∧ i = .int .i64 k ∧ NmInv s k) (fun i _ => s.size - (intOf i).toNat)
  case atStart => exact ⟨0, by omega, rfl, NmInv.start s⟩
  case round =>
    obtain ⟨k, hk, rfl, hi⟩ := hrel
    by_cases hlt : k < s.size
    · by_cases hA : okByte s[k] (k == 0) = true
      · have hnx := hi.next hlt hA
        by_cases hlow : 97 ≤ (s[k].toNat : Int) ∧ (s[k].toNat : Int) ≤ 122
        · obtain ⟨l1, l2⟩ := hlow
          clear hA
          go_wp2
          all_goals
            go_round
            case rel => exact ⟨k + 1, by omega, by go_num, hnx⟩
            case measure => simp [intOf]; omega
        · have h2 : (k == 0) = false ∧ 48 ≤ (s[k].toNat : Int) ∧ (s[k].toNat : Int) ≤ 57 := by
            simp only [okByte, hlow, decide_false, Bool.false_or, Bool.and_eq_true, Bool.not_eq_true', decide_eq_true_eq] at hA
            exact hA
          obtain ⟨h3, h4, h5⟩ := h2
          have h6 : ((k : Int) == 0) = false := by simp at h3 ⊢; omega
          have h7 : (s[k].toNat : Int) < 97 := by omega
          clear hA hlow
          go_wp2
          all_goals
            go_round
            case rel => exact ⟨k + 1, by omega, by go_num, hnx⟩
            case measure => simp [intOf]; omega
      · have hno := Lib.hid (hi.no hlt (by simpa using hA))
        by_cases h0 : k = 0
        · subst h0
          have h2 := (okByte_no hA).1
          clear hA
          by_cases h3 : 97 ≤ (s[0].toNat : Int)
          · have h4 : 122 < (s[0].toNat : Int) := by omega
            have h4b : decide ((s[0].toNat : Int) ≤ 122) = false := by simp; omega
            have h4c : decide ((s[0].toNat : Int) ≤ 57) = false := by simp; omega
            have h4d : (48 : Int) ≤ (s[0].toNat : Int) := by omega
            have h4e : (57 : Int) < (s[0].toNat : Int) := by omega
            clear h2
            go_wp2
            all_goals (go_ret; exact ⟨by rw [hno.out]; rfl, rfl⟩)
          · have h4 : (s[0].toNat : Int) < 97 := by omega
            clear h2 h3
            go_wp2
            all_goals (go_ret; exact ⟨by rw [hno.out]; rfl, rfl⟩)
        · have h6 : ((k : Int) == 0) = false := by simp; omega
          have h2 := (okByte_no hA).1
          have h3 := (okByte_no hA).2 (by simpa using h0)
          clear hA
          by_cases h4 : 97 ≤ (s[k].toNat : Int)
          · have h5 : 122 < (s[k].toNat : Int) := by omega
            have h5b : decide ((s[k].toNat : Int) ≤ 122) = false := by simp; omega
            have h5c : decide ((s[k].toNat : Int) ≤ 57) = false := by simp; omega
            have h5d : (48 : Int) ≤ (s[k].toNat : Int) := by omega
            have h5e : (57 : Int) < (s[k].toNat : Int) := by omega
            clear h2
            go_wp2
            all_goals (go_ret; exact ⟨by rw [hno.out]; rfl, rfl⟩)
          · have h5 : (s[k].toNat : Int) < 97 := by omega
            clear h2 h4
            by_cases h7 : 48 ≤ (s[k].toNat : Int)
            · have h8 : 57 < (s[k].toNat : Int) := by omega
              have h8b : decide ((s[k].toNat : Int) ≤ 57) = false := by simp; omega
              clear h3
              go_wp2
              all_goals (go_ret; exact ⟨by rw [hno.out]; rfl, rfl⟩)
            · have h8 : (s[k].toNat : Int) < 48 := by omega
              clear h3 h7
              go_wp2
              all_goals (go_ret; exact ⟨by rw [hno.out]; rfl, rfl⟩)
    · have hy := Lib.hid (hi.yes hlt)
      by_cases h1 : 1 ≤ s.size
      · by_cases h2 : s.size ≤ 8
        all_goals
          go_wp2
          go_ret
          exact ⟨by rw [hy.out]; exact ret_bool (by first | (simp; omega) | (rw [Bool.eq_iff_iff]; simp; omega)), rfl⟩
      · go_wp2
        go_ret
        exact ⟨by rw [hy.out]; exact ret_bool (by first | (simp; omega) | (rw [Bool.eq_iff_iff]; simp; omega)), rfl⟩

theorem impl_IsName_c (s : ByteArray) (w : World) (hs : s.size ≤ 1048576) : Calls Tryd.prog 117 #[.string s] w fun e w' => e = rBool (isNm s) ∧ w = w' := by
  by_cases h1 : s.size < 1 ∨ 8 < s.size
  · have hno : Hid (isNm s = false) := by
      simp only [Hid, isNm, Bool.and_eq_false_iff, decide_eq_false_iff_not]; omega
    go_enter Tryd.func117, Tryd.ntmps117
    rcases h1 with h1 | h1
    · go_wp2
      go_ret
      exact ⟨by rw [hno.out]; rfl, rfl⟩
    · have h2 : 1 ≤ s.size := by omega
      go_wp2
      go_ret
      exact ⟨by rw [hno.out]; rfl, rfl⟩
  have hs1 : 1 ≤ s.size := by omega
  have hs8 : s.size ≤ 8 := by omega
  clear h1
  go_enter Tryd.func117, Tryd.ntmps117
  go_wp2
  go_loop [3, 4, 5] (fun i t u => ∃ (k : Nat), k ≤ s.size ∧ i = .int .i64 k ∧ NmInv s k) (fun i _ _ => s.size - (intOf i).toNat)
  case atStart => exact ⟨0, by omega, rfl, NmInv.start s⟩
  case round =>
    obtain ⟨k, hk, rfl, hi⟩ := hrel
    by_cases hlt : k < s.size
    · by_cases hA : okByte s[k] (k == 0) = true
      · have hnx := hi.next hlt hA
        by_cases hlow : 97 ≤ (s[k].toNat : Int) ∧ (s[k].toNat : Int) ≤ 122
        · obtain ⟨l1, l2⟩ := hlow
          clear hA
          go_wp2
          all_goals
            go_round
            case rel => exact ⟨k + 1, by omega, by go_num, hnx⟩
            case measure => simp [intOf]; omega
        · have h2 : (k == 0) = false ∧ 48 ≤ (s[k].toNat : Int) ∧ (s[k].toNat : Int) ≤ 57 := by
            simp only [okByte, hlow, decide_false, Bool.false_or, Bool.and_eq_true, Bool.not_eq_true', decide_eq_true_eq] at hA
            exact hA
          obtain ⟨h3, h4, h5⟩ := h2
          have h6 : ((k : Int) == 0) = false := by simp at h3 ⊢; omega
          have h7 : (s[k].toNat : Int) < 97 := by omega
          clear hA hlow
          go_wp2
          all_goals
            go_round
            case rel => exact ⟨k + 1, by omega, by go_num, hnx⟩
            case measure => simp [intOf]; omega
      · have hno := Lib.hid (hi.no hlt (by simpa using hA))
        by_cases h0 : k = 0
        · subst h0
          have h2 := (okByte_no hA).1
          clear hA
          by_cases h3 : 97 ≤ (s[0].toNat : Int)
          · have h4 : 122 < (s[0].toNat : Int) := by omega
            have h4b : decide ((s[0].toNat : Int) ≤ 122) = false := by simp; omega
            have h4c : decide ((s[0].toNat : Int) ≤ 57) = false := by simp; omega
            have h4d : (48 : Int) ≤ (s[0].toNat : Int) := by omega
            have h4e : (57 : Int) < (s[0].toNat : Int) := by omega
            clear h2
            go_wp2
            all_goals (go_ret; exact ⟨by rw [hno.out]; rfl, rfl⟩)
          · have h4 : (s[0].toNat : Int) < 97 := by omega
            clear h2 h3
            go_wp2
            all_goals (go_ret; exact ⟨by rw [hno.out]; rfl, rfl⟩)
        · have h6 : ((k : Int) == 0) = false := by simp; omega
          have h2 := (okByte_no hA).1
          have h3 := (okByte_no hA).2 (by simpa using h0)
          clear hA
          by_cases h4 : 97 ≤ (s[k].toNat : Int)
          · have h5 : 122 < (s[k].toNat : Int) := by omega
            have h5b : decide ((s[k].toNat : Int) ≤ 122) = false := by simp; omega
            have h5c : decide ((s[k].toNat : Int) ≤ 57) = false := by simp; omega
            have h5d : (48 : Int) ≤ (s[k].toNat : Int) := by omega
            have h5e : (57 : Int) < (s[k].toNat : Int) := by omega
            clear h2
            go_wp2
            all_goals (go_ret; exact ⟨by rw [hno.out]; rfl, rfl⟩)
          · have h5 : (s[k].toNat : Int) < 97 := by omega
            clear h2 h4
            by_cases h7 : 48 ≤ (s[k].toNat : Int)
            · have h8 : 57 < (s[k].toNat : Int) := by omega
              have h8b : decide ((s[k].toNat : Int) ≤ 57) = false := by simp; omega
              clear h3
              go_wp2
              all_goals (go_ret; exact ⟨by rw [hno.out]; rfl, rfl⟩)
            · have h8 : (s[k].toNat : Int) < 48 := by omega
              clear h3 h7
              go_wp2
              all_goals (go_ret; exact ⟨by rw [hno.out]; rfl, rfl⟩)
    · have hy := Lib.hid (hi.yes hlt)
      go_wp2
      go_ret
      exact ⟨by rw [hy.out]; exact ret_bool (by first | (simp; omega) | (rw [Bool.eq_iff_iff]; simp; omega)), rfl⟩

/-- a name that begins with the byte b -/
def nmWith (s : ByteArray) (b : Int) : Bool := isNm s && ((s.data.toList.head?.map fun x => (x.toNat : Int)) == some b)
abbrev isPoseNm (s : ByteArray) : Bool := nmWith s 112
abbrev isLandNm (s : ByteArray) : Bool := nmWith s 109
theorem isNm_size {s : ByteArray} (h : isNm s = true) : 0 < s.size := by
  unfold isNm at h
  simp only [Bool.and_eq_true, decide_eq_true_eq] at h
  omega
theorem nm0 {s : ByteArray} (h : isNm s = true) (hz : 0 < s.size) (b : Int) : nmWith s b = (((s[0]'hz).toNat : Int) == b) := by
  have h0 := sdrop s hz
  rw [List.drop_zero] at h0
  rw [nmWith, h, h0]
  simp

theorem spec_IsPoseName_c (s : ByteArray) (w : World) (hs : s.size ≤ 1048576) : Calls Tryd.prog 136 #[.string s] w fun e w' => e = rBool (isPoseNm s) ∧ w = w' := by
  by_cases h : isNm s = true
  · have hz := isNm_size h
    have hfin := Lib.hid (nm0 h hz 112)
    have H := Lib.hid h
    clear h
    go_enter Tryd.func136, Tryd.ntmps136
    go_wp2_with (go_at_call 146; refine (spec_IsName_c _ _ hs).mono ?_; rw [H.out]; rintro e w' ⟨rfl, rfl⟩)
    go_ret
    exact ⟨by rw [isPoseNm, hfin.out]; rfl, rfl⟩
  · have h' : isNm s = false := by simpa using h
    have hfin : Hid (isPoseNm s = false) := by simp [Hid, isPoseNm, nmWith, h']
    have H := Lib.hid h'
    clear h h'
    go_enter Tryd.func136, Tryd.ntmps136
    go_wp2_with (go_at_call 146; refine (spec_IsName_c _ _ hs).mono ?_; rw [H.out]; rintro e w' ⟨rfl, rfl⟩)
    go_ret
    exact ⟨by rw [hfin.out]; rfl, rfl⟩

theorem impl_IsPoseName_c (s : ByteArray) (w : World) (hs : s.size ≤ 1048576) : Calls Tryd.prog 96 #[.string s] w fun e w' => e = rBool (isPoseNm s) ∧ w = w' := by
  by_cases h : isNm s = true
  · have hz := isNm_size h
    have hfin := Lib.hid (nm0 h hz 112)
    have H := Lib.hid h
    clear h
    go_enter Tryd.func96, Tryd.ntmps96
    go_wp2_with (go_at_call 117; refine (impl_IsName_c _ _ hs).mono ?_; rw [H.out]; rintro e w' ⟨rfl, rfl⟩)
    go_ret
    exact ⟨by rw [isPoseNm, hfin.out]; rfl, rfl⟩
  · have h' : isNm s = false := by simpa using h
    have hfin : Hid (isPoseNm s = false) := by simp [Hid, isPoseNm, nmWith, h']
    have H := Lib.hid h'
    clear h h'
    go_enter Tryd.func96, Tryd.ntmps96
    go_wp2_with (go_at_call 117; refine (impl_IsName_c _ _ hs).mono ?_; rw [H.out]; rintro e w' ⟨rfl, rfl⟩)
    go_ret
    exact ⟨by rw [hfin.out]; rfl, rfl⟩

theorem spec_IsLandmarkName_c (s : ByteArray) (w : World) (hs : s.size ≤ 1048576) : Calls Tryd.prog 137 #[.string s] w fun e w' => e = rBool (isLandNm s) ∧ w = w' := by
  by_cases h : isNm s = true
  · have hz := isNm_size h
    have hfin := Lib.hid (nm0 h hz 109)
    have H := Lib.hid h
    clear h
    go_enter Tryd.func137, Tryd.ntmps137
    go_wp2_with (go_at_call 146; refine (spec_IsName_c _ _ hs).mono ?_; rw [H.out]; rintro e w' ⟨rfl, rfl⟩)
    go_ret
    exact ⟨by rw [isLandNm, hfin.out]; rfl, rfl⟩
  · have h' : isNm s = false := by simpa using h
    have hfin : Hid (isLandNm s = false) := by simp [Hid, isLandNm, nmWith, h']
    have H := Lib.hid h'
    clear h h'
    go_enter Tryd.func137, Tryd.ntmps137
    go_wp2_with (go_at_call 146; refine (spec_IsName_c _ _ hs).mono ?_; rw [H.out]; rintro e w' ⟨rfl, rfl⟩)
    go_ret
    exact ⟨by rw [hfin.out]; rfl, rfl⟩

theorem impl_IsLandmarkName_c (s : ByteArray) (w : World) (hs : s.size ≤ 1048576) : Calls Tryd.prog 97 #[.string s] w fun e w' => e = rBool (isLandNm s) ∧ w = w' := by
  by_cases h : isNm s = true
  · have hz := isNm_size h
    have hfin := Lib.hid (nm0 h hz 109)
    have H := Lib.hid h
    clear h
    go_enter Tryd.func97, Tryd.ntmps97
    go_wp2_with (go_at_call 117; refine (impl_IsName_c _ _ hs).mono ?_; rw [H.out]; rintro e w' ⟨rfl, rfl⟩)
    go_ret
    exact ⟨by rw [isLandNm, hfin.out]; rfl, rfl⟩
  · have h' : isNm s = false := by simpa using h
    have hfin : Hid (isLandNm s = false) := by simp [Hid, isLandNm, nmWith, h']
    have H := Lib.hid h'
    clear h h'
    go_enter Tryd.func97, Tryd.ntmps97
    go_wp2_with (go_at_call 117; refine (impl_IsName_c _ _ hs).mono ?_; rw [H.out]; rintro e w' ⟨rfl, rfl⟩)
    go_ret
    exact ⟨by rw [hfin.out]; rfl, rfl⟩

end Go.Proofs.YtebcdjpddoaajaaDoor
