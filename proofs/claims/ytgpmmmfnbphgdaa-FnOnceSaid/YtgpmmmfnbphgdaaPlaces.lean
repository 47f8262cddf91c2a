/- IsPlaceList: what the two of it answer. -/
import Derived.Test.YtgpmmmfnbphgdaaLists
namespace Go.Proofs.Ytgpmmmfnbphgdaa
open Go.RowKit
set_option linter.unusedVariables false
set_option linter.unusedSimpArgs false
set_option maxHeartbeats 800000
set_option maxRecDepth 100000

theorem Row.take_ {α : Type} {w : World} {A : Option Addr} {n sz : Nat} {l : List α} {c : α → List Value} (h : Row w A n sz (l.map c)) {k : Nat} (hk : k ≤ n) : Row w A k sz ((l.take k).map c) := by
  have hl : l.length = n := h.len
  refine ⟨by simp; omega, fun i cs hi => ?_⟩
  rw [List.map_take] at hi
  have hik : i < k := by
    have := (List.getElem?_eq_some_iff.1 hi).1
    simp at this; omega
  rw [List.getElem?_take, if_pos hik] at hi
  exact h.2 i cs hi
def plL : List Place → List ByteArray → Bool
  | [], _ => true
  | p :: r, seen => vldPlace p && (!hasStr seen p.name && plL r (seen ++ [p.name]))
def isPL (l : List Place) : Bool := decide (l.length ≤ 16) && plL l []
/-- the names of the first k -/
def nmT (l : List Place) (k : Nat) : List ByteArray := (l.take k).map (·.name)
def PlInv (l : List Place) (k : Nat) : Prop := plL l [] = plL (l.drop k) (nmT l k)
theorem PlInv.step {l : List Place} {k : Nat} {p : Place} (h : PlInv l k) (hf : Hid (l[k]? = some p)) : plL l [] = (vldPlace p && (!hasStr (nmT l k) p.name && plL (l.drop (k + 1)) (nmT l (k + 1)))) := by
  unfold PlInv at h
  have h1 : l[k]? = some p := hf
  obtain ⟨hk, rfl⟩ := List.getElem?_eq_some_iff.1 h1
  rw [h, drop_at hf, plL]
  have e : nmT l (k + 1) = nmT l k ++ [l[k].name] := by
    unfold nmT; rw [List.take_succ_eq_append_getElem hk, List.map_append]; rfl
  rw [e]
theorem PlInv.done {l : List Place} {k n : Nat} (h : PlInv l k) (hl : Hid (l.length = n)) (hk : ¬ k < n) : Hid (plL l [] = true) := by
  unfold PlInv at h; rw [Hid, h, drop_end hl hk]; rfl
theorem nmT_zero (l : List Place) : nmT l 0 = [] := by simp [nmT]
theorem nmT_succ {l : List Place} {k : Nat} {p : Place} (hf : Hid (l[k]? = some p)) : nmT l (k + 1) = nmT l k ++ [p.name] := by
  have h1 : l[k]? = some p := hf
  obtain ⟨hk, rfl⟩ := List.getElem?_eq_some_iff.1 h1
  unfold nmT; rw [List.take_succ_eq_append_getElem hk, List.map_append]; rfl
/-- the inner search: through the first j of the first k -/
def SeenInv (l : List Place) (k j : Nat) (s : ByteArray) : Prop := hasStr (nmT l k) s = hasStr ((nmT l k).drop j) s
theorem SeenInv.step {l : List Place} {k j : Nat} {s : ByteArray} {q : Place} (h : SeenInv l k j s) (hf : Hid ((l.take k)[j]? = some q)) : hasStr (nmT l k) s = ((q.name.toList == s.toList) || hasStr ((nmT l k).drop (j + 1)) s) := by
  unfold SeenInv at h
  have e : Hid ((nmT l k)[j]? = some q.name) := by
    have : (l.take k)[j]? = some q := hf
    show ((l.take k).map (·.name))[j]? = _
    rw [List.getElem?_map, this]; rfl
  rw [h, drop_at e]; rfl
theorem SeenInv.done {l : List Place} {k j : Nat} {s : ByteArray} (h : SeenInv l k j s) (hl : Hid (l.length = l.length)) (hk : ¬ j < k) : Hid (hasStr (nmT l k) s = false) := by
  unfold SeenInv at h
  rw [Hid, h, List.drop_eq_nil_of_le (by simp [nmT]; omega)]; rfl

end Go.Proofs.Ytgpmmmfnbphgdaa
