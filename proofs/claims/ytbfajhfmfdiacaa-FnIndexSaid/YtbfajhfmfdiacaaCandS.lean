/- CandidatesOf: the sort of a list of the call's own; l07Put; what the reference's answers. -/
import Derived.Test.YtbfajhfmfdiacaaCand
import Derived.Test.YtbfajhfmfdiacaaShelf
import Derived.Sort.OwnSortedInts
namespace Go.Proofs.Ytbfajhfmfdiacaa
open Go.RowKit
set_option linter.unusedVariables false
set_option linter.unusedSimpArgs false
set_option maxHeartbeats 1600000
set_option maxRecDepth 100000
theorem flat_ints (l : List Int) : (l.map intCells).flatten = l.map (Value.int .i64) := by
  induction l with
  | nil => rfl
  | cons x l ih => simp only [List.map_cons, List.flatten_cons, ih]; rfl
def srtI (l : List Int) : List Int := l.mergeSort fun x y => decide (x ≤ y)
theorem sortInt_k {g n c B : Nat} {l : List Int} {w : World} (ho : Own w B 3 1 (some ⟨g, 0, none⟩) n c (l.map intCells)) (hn : n ≤ 1048576) :
    Calls Try.prog 60 #[.slice (some ⟨g, 0, none⟩) n c] w fun e w' => e = .returned (.tuple #[]) ∧ Own w' B 3 1 (some ⟨g, 0, none⟩) n c ((srtI l).map intCells) ∧ Upd [g] w w' := by
  have hl : l.length = n := by have := ho.len; simpa using this
  have hgl := (ho.lt g rfl).2
  rcases ho.own.2 with ⟨h0, _⟩ | ⟨g', cap', cur, hv, hg, hb, hn', hcap, hsz, htk⟩
  · cases h0
  cases hv
  subst hl
  rw [flat_ints] at htk
  have htk' : cur.toList.take l.length = l.map (Value.int .i64) := by simpa using htk
  refine Calls.mono (Ytbfajhfmfdiacaa.slices_Sort_int g 0 c l w (holds_of_blockI hb htk') hgl (by omega)) ?_
  rintro e w' ⟨rfl, n2, os, rfl⟩
  have hlen : (srtI l).length = l.length := List.length_mergeSort _
  refine ⟨rfl, ⟨?_, by simpa using hlen, fun cs h => by obtain ⟨f, _, rfl⟩ := List.mem_map.1 h; rfl⟩, Upd.of_grown (grownBy_sortedI _) fun k hk => by simp at hk; simp [hk]⟩
  rw [flat_ints]
  exact ownsRow_sortedI hlen hg hb hn' hcap hsz
theorem slice_toI {W : World} {E : Option Addr} {B n c a : Nat} {css : List (List Value)} (h : a ≤ n) (ho : Own W B 3 1 E n c css) : Hid (∀ w, (Instr.slice 33 (.slice E n c) none (some (.int .i64 (a : Int))) none).run Try.prog w = .ok (.slice E a c) w) := by
  intro w
  rcases ho.cases with ⟨rfl, rfl, rfl, _⟩ | ⟨g, rfl, _, _, h1, h2⟩
  · obtain rfl : a = 0 := by omega
    go_simp
  · have hI : (0 : Int) ≤ (a : Int) := by omega
    have hJ : (a : Int) ≤ (c : Int) := by omega
    have hK : (n : Int) ≤ (c : Int) := by omega
    go_simp
theorem slice_fromI {W : World} {E : Option Addr} {B n c a : Nat} {css : List (List Value)} (h : a ≤ n) (ho : Own W B 3 1 E n c css) : ∃ A' c', (∀ w, (Instr.slice 33 (.slice E n c) (some (.int .i64 (a : Int))) none none).run Try.prog w = .ok (.slice A' (n - a : Nat) c') w) ∧ (a < n → ∃ g, E = some ⟨g, 0, none⟩ ∧ A' = some ⟨g, 0 + a * 1, none⟩) := by
  rcases ho.cases with ⟨rfl, rfl, rfl, _⟩ | ⟨g, rfl, _, _, h1, h2⟩
  · obtain rfl : a = 0 := by omega
    have : ∃ A' c', ∀ w, (Instr.slice 33 (.slice none 0 0) (some (.int .i64 (0 : Int))) none none).run Try.prog w = .ok (.slice A' 0 c') w := by go_simp
    obtain ⟨A', c', h⟩ := this
    exact ⟨A', c', h, fun h => by omega⟩
  · have hI : (0 : Int) ≤ (a : Int) := by omega
    have hJ : (a : Int) ≤ (n : Int) := by omega
    have hK : (n : Int) ≤ (c : Int) := by omega
    by_cases h3 : a < c
    · have hL : (a : Int) < (c : Int) := by omega
      refine ⟨some ⟨g, 0 + a * 1, none⟩, c - a, fun w => ?_, fun _ => ⟨g, rfl, rfl⟩⟩
      go_simp
      try omega
    · obtain rfl : a = c := by omega
      obtain rfl : n = a := by omega
      have : ∃ A' c', ∀ w, (Instr.slice 33 (.slice (some ⟨g, 0, none⟩) n n) (some (.int .i64 (n : Int))) none none).run Try.prog w = .ok (.slice A' 0 c') w := by go_simp
      obtain ⟨A', c', h⟩ := this
      exact ⟨A', c', by simpa using h, fun h => by omega⟩
theorem row_fromI {w : World} {E A' : Option Addr} {n a : Nat} {L : List Int} (h : Row w E n 1 (L.map intCells)) (ha : a ≤ n) (hA : a < n → ∃ g, E = some ⟨g, 0, none⟩ ∧ A' = some ⟨g, 0 + a * 1, none⟩) : Row w A' (n - a) 1 ((L.drop a).map intCells) := by
  by_cases hlt : a < n
  · obtain ⟨g, rfl, rfl⟩ := hA hlt
    exact Row.drop_ h ha
  · obtain rfl : a = n := by omega
    have hl : L.length = a := h.len
    rw [List.drop_eq_nil_of_le (by omega), Nat.sub_self]
    exact Row.nil_ _ _ _
end Go.Proofs.Ytbfajhfmfdiacaa
