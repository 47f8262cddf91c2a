/- Texts of this proof, one behind the other: NmOf2. -/
import Derived.Test.YtebcdjpddoaajaaGreatDoorGs24
/- The names of a factor list: the reference's way. -/
namespace Go.Proofs.YtebcdjpddoaajaaGreatDoor
open Go.RowKit
set_option linter.unusedVariables false
set_option linter.unusedSimpArgs false
set_option maxHeartbeats 800000
set_option maxRecDepth 100000
theorem l16Has_c (A : Option Addr) (n c : Nat) (l : List ByteArray) (s : ByteArray) (w : World) (hn : n ≤ 1048576) (hr : RowS w A n l) :
    Calls Tryz.prog 108 #[.slice A n c, .string s] w fun e w' => e = rBool (hasStr l s) ∧ w = w' := by
  go_enter Tryz.func108, Tryz.ntmps108
  go_wp2
  go_loop [9, 6] (fun i t => ∃ (k : Nat), k ≤ n ∧ i = .int .i64 k ∧ StrInv l s k) (fun i _ => n - (intOf i).toNat)
  case atStart => exact ⟨0, by omega, rfl, rfl⟩
  case round =>
    obtain ⟨k, hk, rfl, hi⟩ := hrel
    by_cases hlt : k < n
    · obtain ⟨f, g, off, hf, rfl, g0⟩ := RowS.at_ hr hlt
      have hst := hi.step hf
      generalize hbe : (f.toList == s.toList) = b at hst
      have HS := Lib.hid hst
      clear hst
      cases b
      · have hnx : StrInv l s (k + 1) := by rw [StrInv, HS.out, Bool.false_or]
        go_wp2
        go_round
        case rel => exact ⟨k + 1, by omega, by go_num, hnx⟩
        case measure => simp [intOf]; omega
      · go_wp2
        go_ret
        exact ⟨by rw [HS.out, Bool.true_or]; rfl, rfl⟩
    · have hfin := hi.done hr.len hlt
      go_wp2
      go_ret
      exact ⟨by rw [hfin.out]; rfl, rfl⟩
def StInv (L : List ByteArray) (f : Factor) (j : Nat) (M : List ByteArray) : Prop := M = ([f.frm, f.to].take j).foldl addNm L
theorem StInv.step {L M : List ByteArray} {f : Factor} {j : Nat} {s : ByteArray} (h : StInv L f j M) (hs : Hid ([f.frm, f.to][j]? = some s)) : StInv L f (j + 1) (addNm M s) := by
  obtain ⟨hj, rfl⟩ := List.getElem?_eq_some_iff.1 hs.out
  unfold StInv at *
  rw [List.take_succ_eq_append_getElem hj, List.foldl_append, ← h]
  rfl
theorem StInv.done {L M : List ByteArray} {f : Factor} {j : Nat} (h : StInv L f j M) (hj : ¬ j < 2) : namesF L f = M := by
  unfold StInv at h
  rw [h, List.take_of_length_le (by simp; omega)]
  rfl
theorem spec_NamesOf_c (A : Option Addr) (n c : Nat) (l : List Factor) (w : World) (hn : n ≤ 100000) (hr : RowF w A n l) :
    Calls Tryz.prog 77 #[.slice A n c] w fun e w' => StrsPost w e w' (namesOf l) 9 (2 * n) := by
  obtain ⟨i0, hii, hq0, hq1, hq2⟩ := info_parts info_String
  go_enter Tryz.func77, Tryz.ntmps77
  go_wp2
  go_loopw [11, 3] (fun i v wr => ∃ (k : Nat) (A' : Option Addr) (n' c' : Nat) (L : List ByteArray), k ≤ n ∧ n' ≤ 2 * k ∧ i = .int .i64 k ∧ v = .slice A' n' c' ∧ Own wr w.heap.size 9 1 A' n' c' (L.map strCells) ∧ NmOfInv l k L ∧ Below w.heap.size w wr) (fun i _ _ => n - (intOf i).toNat)
  case atStart => exact ⟨0, _, 0, 0, [], by omega, by omega, rfl, rfl, Own.made0 w 9 1 (Nat.le_refl _), NmOfInv.start l, bAlloc (Below.refl _ _) _⟩
  case round =>
    obtain ⟨k, A', n', c', L, hk, hnk, rfl, rfl, hown, hi, hb⟩ := hrel
    by_cases hlt : k < n
    · obtain ⟨f, g, off, hf, rfl, g0, g1, g2, g3, g4, g5, g6, g7⟩ := RowF.at_ (hr.below hb) hlt
      have hst := Lib.hid (hi.step hf)
      clear hi
      obtain ⟨wo, hwo⟩ : ∃ wo : World, wo = wr := ⟨_, rfl⟩
      obtain rfl := hwo
      go_wp2_with fail
      go_loopw [21, 3, 7] (fun i v s7 wi => ∃ (j : Nat) (A2 : Option Addr) (n2 c2 : Nat) (M : List ByteArray), j ≤ 2 ∧ n2 ≤ 2 * k + j ∧ i = .int .i64 j ∧ v = .slice A2 n2 c2 ∧ Own wi w.heap.size 9 1 A2 n2 c2 (M.map strCells) ∧ StInv L f j M ∧ Below w.heap.size w wi ∧ (∀ (q : Nat) (s : ByteArray), [f.frm, f.to][q]? = some s → wi.cell? ⟨wo.heap.size + 1, q, none⟩ = some (.string s)) ∧ wo.heap.size + 1 < wi.heap.size ∧ (∀ q, ob A2 = some q → q < wo.heap.size ∨ wo.heap.size + 1 < q)) (fun i _ _ _ => 2 - (intOf i).toNat)
      case atStart => exact ⟨0, A', n', c', L, by omega, by omega, rfl, rfl, (hown.alloc_ _).alloc_ _, rfl, bAlloc (bAlloc hb _) _, fun q s hs => (match q, hs with | 0, hs => by simp at hs; subst hs; simp | 1, hs => by simp at hs; subst hs; simp), by simp, fun q hq => .inl (hown.lt q hq).2⟩
      case round =>
        obtain ⟨j, A2, n2, c2, M, hj, hn2, rfl, rfl, hown2, hM, hb2, hcell, hsz2, hap⟩ := hrel
        by_cases hlt2 : j < 2
        · obtain ⟨s, hs⟩ : ∃ s, [f.frm, f.to][j]? = some s := ⟨_, List.getElem?_eq_getElem (by simpa using hlt2)⟩
          have gs := hcell j s hs
          have HC := Lib.hid hcell
          have HA := Lib.hid hap
          have hM1 := Lib.hid (hM.step hs)
          clear hcell hap hM hs
          generalize hse : s.toList.isEmpty = se
          have HF := Lib.hid hse
          clear hse
          cases se
          · have hx0 : ¬ s.toList = [] := by have := HF.out; simpa using this
            have hy0 : (!s.toList.isEmpty) = true := by rw [HF.out]; rfl
            have hz0 : s.toList.isEmpty = false := HF.out
            generalize hh0 : hasStr M s = b0
            have HS0 := Lib.hid hh0
            clear hh0
            cases b0
            · have e0 := addNm_new HF HS0
              go_wp2_with fail
              refine Calls.mono (l16Has_c _ _ _ M s _ (by omega) hown2.row) ?_
              rintro e wx ⟨rfl, rfl⟩
              rw [HS0.out]
              go_wp2_with (at_builtin; refine wpList_append rfl (.tmp 33) (.tmp 35) 73 rfl w.heap.size 9 1 16 i0 _ Tryz.underlying73 hii hq0 hq1 hq2 rfl (by omega) A2 n2 c2 _ rfl (hown2.alloc_ _) _ 1 1 [strCells s] rfl (Row.new1' _ _ _ 1 _ (by simp)) (by simp [strCells]) (by simp [strCells, Value.oneCell']) (by simp only [maxLen]; omega) (by omega) (bAlloc hb2 _).size ?_; intro A3 c3 w3 ho3 hg3 hat3)
              have hB := bGrown (bAlloc hb2 _) hg3 (fun q hq => (hown2.lt q hq).1)
              rw [strs_snoc] at ho3
              have hbx := gBox hg3 (wo.heap.size + 1) (by simp; omega) (fun q hq e => by have := HA.out q hq; omega)
              have hcell3 : ∀ (q : Nat) (s : ByteArray), [f.frm, f.to][q]? = some s → w3.cell? ⟨wo.heap.size + 1, q, none⟩ = some (.string s) := fun q t hq => (hbx q).trans (bCell (bAlloc (Below.refl _ _) _) (HC.out q t hq))
              have hap3 : ∀ q, ob A3 = some q → q < wo.heap.size ∨ wo.heap.size + 1 < q := fun q hq => by
                rcases hat3 with h | h
                · exact HA.out q (h ▸ hq)
                · rw [h] at hq; simp at hq; omega
              have hs3 : wo.heap.size + 1 < w3.heap.size := by have := hg3.size; simp at this; omega
              go_roundw
              case rel => exact ⟨j + 1, A3, n2 + 1, c3, M ++ [s], by omega, by omega, by go_num, rfl, ho3, by have := hM1.out; rw [e0] at this; exact this, hB, hcell3, hs3, hap3⟩
              case measure => simp [intOf]; omega
            · have e0 := addNm_has HS0
              go_wp2_with fail
              refine Calls.mono (l16Has_c _ _ _ M s _ (by omega) hown2.row) ?_
              rintro e wx ⟨rfl, rfl⟩
              rw [HS0.out]
              go_wp2_with fail
              go_roundw
              case rel => exact ⟨j + 1, A2, n2, c2, M, by omega, by omega, by go_num, rfl, hown2, by have := hM1.out; rw [e0] at this; exact this, hb2, HC.out, hsz2, HA.out⟩
              case measure => simp [intOf]; omega
          · have hx0 : s.toList = [] := by have := HF.out; simpa using this
            have hy0 : (!s.toList.isEmpty) = false := by rw [HF.out]; rfl
            have hz0 : s.toList.isEmpty = true := HF.out
            have e0 : addNm M s = M := addNm_empty HF
            go_wp2_with fail
            go_roundw
            case rel => exact ⟨j + 1, A2, n2, c2, M, by omega, by omega, by go_num, rfl, hown2, by have := hM1.out; rw [e0] at this; exact this, hb2, HC.out, hsz2, HA.out⟩
            case measure => simp [intOf]; omega
        · have hfin := Lib.hid (hM.done hlt2)
          clear hcell hap hM
          go_wp2_with fail
          go_roundw
          case rel => exact ⟨k + 1, A2, n2, c2, M, by omega, by omega, by go_num, rfl, hown2, by have := hst.out; rw [hfin.out] at this; exact this, hb2⟩
          case measure => simp [intOf]; omega
    · have hfin := hi.done hr.len hlt
      go_wp2
      go_ret
      refine ⟨⟨A', n', c'⟩, rfl, ?_, hb, by simp only; omega⟩
      rw [hfin.out]; exact hown
end Go.Proofs.YtebcdjpddoaajaaGreatDoor
