/- IsPlaceList: what the two of it answer. -/
import Derived.Test.YtbfajhfmfdiacaaLists
namespace Go.Proofs.Ytbfajhfmfdiacaa
open Go.RowKit
set_option linter.unusedVariables false
set_option linter.unusedSimpArgs false
set_option maxHeartbeats 800000
set_option maxRecDepth 100000

theorem Row.take_ {α : Type} {w : World} {A : Option Addr} {n sz : Nat} {l : List α} {c : α → List Value} (h : Row w A n sz (l.map c)) {k : Nat} (hk : k ≤ n) : Row w A k sz ((l.take k).map c) := by
  have hl : l.length = n := h.len
  refine ⟨by simp; omega, fun i cs hi => ?_⟩
  rw [List.map_take] at hi
  have hik : i < k := by
    have := (List.getElem?_eq_some_iff.1 hi).1
    simp at this; omega
  rw [List.getElem?_take, if_pos hik] at hi
  exact h.2 i cs hi
def plL : List Place → List ByteArray → Bool
  | [], _ => true
  | p :: r, seen => vldPlace p && (!hasStr seen p.name && plL r (seen ++ [p.name]))
def isPL (l : List Place) : Bool := decide (l.length ≤ 16) && plL l []
/-- the names of the first k -/
def nmT (l : List Place) (k : Nat) : List ByteArray := (l.take k).map (·.name)
def PlInv (l : List Place) (k : Nat) : Prop := plL l [] = plL (l.drop k) (nmT l k)
theorem PlInv.step {l : List Place} {k : Nat} {p : Place} (h : PlInv l k) (hf : Hid (l[k]? = some p)) : plL l [] = (vldPlace p && (!hasStr (nmT l k) p.name && plL (l.drop (k + 1)) (nmT l (k + 1)))) := by
  unfold PlInv at h
  have h1 : l[k]? = some p := hf
  obtain ⟨hk, rfl⟩ := List.getElem?_eq_some_iff.1 h1
  rw [h, drop_at hf, plL]
  have e : nmT l (k + 1) = nmT l k ++ [l[k].name] := by
    unfold nmT; rw [List.take_succ_eq_append_getElem hk, List.map_append]; rfl
  rw [e]
theorem PlInv.done {l : List Place} {k n : Nat} (h : PlInv l k) (hl : Hid (l.length = n)) (hk : ¬ k < n) : Hid (plL l [] = true) := by
  unfold PlInv at h; rw [Hid, h, drop_end hl hk]; rfl
theorem nmT_zero (l : List Place) : nmT l 0 = [] := by simp [nmT]
theorem nmT_succ {l : List Place} {k : Nat} {p : Place} (hf : Hid (l[k]? = some p)) : nmT l (k + 1) = nmT l k ++ [p.name] := by
  have h1 : l[k]? = some p := hf
  obtain ⟨hk, rfl⟩ := List.getElem?_eq_some_iff.1 h1
  unfold nmT; rw [List.take_succ_eq_append_getElem hk, List.map_append]; rfl
/-- the inner search: through the first j of the first k -/
def SeenInv (l : List Place) (k j : Nat) (s : ByteArray) : Prop := hasStr (nmT l k) s = hasStr ((nmT l k).drop j) s
theorem SeenInv.step {l : List Place} {k j : Nat} {s : ByteArray} {q : Place} (h : SeenInv l k j s) (hf : Hid ((l.take k)[j]? = some q)) : hasStr (nmT l k) s = ((q.name.toList == s.toList) || hasStr ((nmT l k).drop (j + 1)) s) := by
  unfold SeenInv at h
  have e : Hid ((nmT l k)[j]? = some q.name) := by
    have : (l.take k)[j]? = some q := hf
    show ((l.take k).map (·.name))[j]? = _
    rw [List.getElem?_map, this]; rfl
  rw [h, drop_at e]; rfl
theorem SeenInv.done {l : List Place} {k j : Nat} {s : ByteArray} (h : SeenInv l k j s) (hl : Hid (l.length = l.length)) (hk : ¬ j < k) : Hid (hasStr (nmT l k) s = false) := by
  unfold SeenInv at h
  rw [Hid, h, List.drop_eq_nil_of_le (by simp [nmT]; omega)]; rfl

theorem info_Str : (Try.prog.info? 9).map (fun i => (i.zero, i.size, i.bytes)) = some (some (.string ByteArray.empty), 1, 16) := by kernel_rfl
theorem impl_IsPlaceList_c (A : Option Addr) (n c : Nat) (l : List Place) (w : World) (hn : n ≤ 1048576) (hr : RowP w A n l) (hs : ∀ p ∈ l, p.name.size ≤ 1048576) :
    Calls Try.prog 33 #[.slice A n c] w fun e w' => e = rBool (isPL l) ∧ Below w.heap.size w w' := by
  have hl := hr.len
  by_cases h16 : n ≤ 16
  · have hE : Hid (isPL l = plL l []) := by
      have : l.length = n := hl
      simp [Hid, isPL, this, h16]
    obtain ⟨i0, hii, hz0, hz1, hz2⟩ := info_parts info_Str
    go_enter Try.func33, Try.ntmps33
    go_wp2
    go_loopw [12, 3] (fun i v wr => ∃ (k : Nat) (A' : Option Addr) (c' : Nat), k ≤ n ∧ i = .int .i64 k ∧ v = .slice A' k c' ∧ Own wr w.heap.size 9 1 A' k c' ((nmT l k).map strCells) ∧ PlInv l k ∧ Below w.heap.size w wr) (fun i _ _ => n - (intOf i).toNat)
    case atStart => exact ⟨0, _, 0, by omega, rfl, rfl, by rw [nmT_zero]; exact Own.made0 w 9 1 (Nat.le_refl _), rfl, bAlloc (Below.refl _ _) _⟩
    case round =>
      obtain ⟨k, A', c', hk, rfl, rfl, hown, hi, hb⟩ := hrel
      by_cases hlt : k < n
      · obtain ⟨f, g, off, hf, rfl, g0, g1⟩ := RowP.at_ (hr.below hb) hlt
        have hst := hi.step hf
        have hsz := hs f (List.mem_of_getElem? hf.out)
        generalize hv : vldPlace f = bv at hst
        generalize hq : hasStr (nmT l k) f.name = bq at hst
        have HV := Lib.hid hv
        have HQ := Lib.hid hq
        have HS := Lib.hid hst
        clear hv hq hst hi
        have hrow := hown.row
        cases bv
        · have hfin : Hid (isPL l = false) := by rw [Hid, hE.out, HS.out, Bool.false_and]
          go_wp2_with (go_at_call 54; refine (impl_IsValidPlace_c _ _ _ hsz).mono ?_; rw [HV.out]; rintro e w1 ⟨rfl, hb1⟩; have k1 := bBox hb1 wr.heap.size (by simp); have hz := bsz1 hb1)
          go_ret
          exact ⟨by rw [hfin.out]; rfl, bTrans (bAlloc hb _) hb1⟩
        · cases bq
          · have hnx : PlInv l (k + 1) := by rw [PlInv, HS.out, Bool.true_and, Bool.not_false, Bool.true_and]
            go_wp2_with (first
              | (go_at_call 54; refine (impl_IsValidPlace_c _ _ _ hsz).mono ?_; rw [HV.out]; rintro e w1 ⟨rfl, hb1⟩; have k1 := bBox hb1 wr.heap.size (by simp); have hz := bsz1 hb1)
              | (go_at_call 51; refine (hasString_c _ _ _ (nmT l k) _ _ (by omega) (hrow.below (bTrans (bAlloc (Below.refl _ _) _) hb1))).mono ?_; rw [HQ.out]; rintro e w2 ⟨rfl, rfl⟩)
              | (at_builtin; refine wpList_append rfl (.tmp 25) (.tmp 28) 63 rfl w.heap.size 9 1 16 i0 _ Try.underlying63 hii hz0 hz1 hz2 rfl (by omega) A' k c' _ rfl ((hown.below (bTrans (bAlloc (Below.refl _ _) _) hb1)).alloc_ _) _ 1 1 [strCells f.name] rfl (Row.new1 _ _ _ 1) (by simp [strCells]) (by simp [strCells, Value.oneCell']) (by simp only [maxLen]; omega) (by omega) (by have := hb.size; have := hb1.size; simp at *; omega) ?_; intro A3 c3 w3 hown3 hg3 hat3))
            have hB := bGrown (bAlloc (bTrans (bAlloc hb _) hb1) _) hg3 (fun q hq => (hown.lt q hq).1)
            go_roundw
            case rel => exact ⟨k + 1, A3, c3, by omega, by go_num, rfl, by rw [nmT_succ hf]; simpa using hown3, hnx, hB⟩
            case measure => simp [intOf]; omega
          · have hfin : Hid (isPL l = false) := by rw [Hid, hE.out, HS.out]; rfl
            go_wp2_with (first
              | (go_at_call 54; refine (impl_IsValidPlace_c _ _ _ hsz).mono ?_; rw [HV.out]; rintro e w1 ⟨rfl, hb1⟩; have k1 := bBox hb1 wr.heap.size (by simp); have hz := bsz1 hb1)
              | (go_at_call 51; refine (hasString_c _ _ _ (nmT l k) _ _ (by omega) (hrow.below (bTrans (bAlloc (Below.refl _ _) _) hb1))).mono ?_; rw [HQ.out]; rintro e w2 ⟨rfl, rfl⟩))
            go_ret
            exact ⟨by rw [hfin.out]; rfl, bTrans (bAlloc hb _) hb1⟩
      · have hfin := hi.done hl hlt
        go_wp2
        go_ret
        exact ⟨by rw [hE.out, hfin.out]; rfl, hb⟩
  · have hfin : Hid (isPL l = false) := by
      have : l.length = n := hl
      simp [Hid, isPL, this, h16]
    have h17 : 16 < n := by omega
    clear h16
    go_enter Try.func33, Try.ntmps33
    go_wp2
    go_ret
    exact ⟨by rw [hfin.out]; rfl, Below.refl _ _⟩
end Go.Proofs.Ytbfajhfmfdiacaa
