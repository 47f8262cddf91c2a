/- CandidatesOf: the sort of a list of the call's own; l07Put; what the reference's answers. -/
import Derived.Test.YtadmeijogbljhaaCand
import Derived.Test.YtadmeijogbljhaaShelf
import Derived.Sort.OwnSortedInts
namespace Go.Proofs.Ytadmeijogbljhaa
open Go.RowKit
set_option linter.unusedVariables false
set_option linter.unusedSimpArgs false
set_option maxHeartbeats 1600000
set_option maxRecDepth 100000
theorem flat_ints (l : List Int) : (l.map intCells).flatten = l.map (Value.int .i64) := by
  induction l with
  | nil => rfl
  | cons x l ih => simp only [List.map_cons, List.flatten_cons, ih]; rfl
def srtI (l : List Int) : List Int := l.mergeSort fun x y => decide (x ≤ y)
theorem sortInt_k {g n c B : Nat} {l : List Int} {w : World} (ho : Own w B 3 1 (some ⟨g, 0, none⟩) n c (l.map intCells)) (hn : n ≤ 1048576) :
    Calls Try.prog 156 #[.slice (some ⟨g, 0, none⟩) n c] w fun e w' => e = .returned (.tuple #[]) ∧ Own w' B 3 1 (some ⟨g, 0, none⟩) n c ((srtI l).map intCells) ∧ Upd [g] w w' := by
  have hl : l.length = n := by have := ho.len; simpa using this
  have hgl := (ho.lt g rfl).2
  rcases ho.own.2 with ⟨h0, _⟩ | ⟨g', cap', cur, hv, hg, hb, hn', hcap, hsz, htk⟩
  · cases h0
  cases hv
  subst hl
  rw [flat_ints] at htk
  have htk' : cur.toList.take l.length = l.map (Value.int .i64) := by simpa using htk
  refine Calls.mono (Ytadmeijogbljhaa.slices_Sort_int g 0 c l w (holds_of_blockI hb htk') hgl (by omega)) ?_
  rintro e w' ⟨rfl, n2, os, rfl⟩
  have hlen : (srtI l).length = l.length := List.length_mergeSort _
  refine ⟨rfl, ⟨?_, by simpa using hlen, fun cs h => by obtain ⟨f, _, rfl⟩ := List.mem_map.1 h; rfl⟩, Upd.of_grown (grownBy_sortedI _) fun k hk => by simp at hk; simp [hk]⟩
  rw [flat_ints]
  exact ownsRow_sortedI hlen hg hb hn' hcap hsz
theorem slice_toI {W : World} {E : Option Addr} {B n c a : Nat} {css : List (List Value)} (h : a ≤ n) (ho : Own W B 3 1 E n c css) : Hid (∀ w, (Instr.slice 52 (.slice E n c) none (some (.int .i64 (a : Int))) none).run Try.prog w = .ok (.slice E a c) w) := by
  intro w
  rcases ho.cases with ⟨rfl, rfl, rfl, _⟩ | ⟨g, rfl, _, _, h1, h2⟩
  · obtain rfl : a = 0 := by omega
    go_simp
  · have hI : (0 : Int) ≤ (a : Int) := by omega
    have hJ : (a : Int) ≤ (c : Int) := by omega
    have hK : (n : Int) ≤ (c : Int) := by omega
    go_simp
theorem slice_fromI {W : World} {E : Option Addr} {B n c a : Nat} {css : List (List Value)} (h : a ≤ n) (ho : Own W B 3 1 E n c css) : ∃ A' c', (∀ w, (Instr.slice 52 (.slice E n c) (some (.int .i64 (a : Int))) none none).run Try.prog w = .ok (.slice A' (n - a : Nat) c') w) ∧ (a < n → ∃ g, E = some ⟨g, 0, none⟩ ∧ A' = some ⟨g, 0 + a * 1, none⟩) := by
  rcases ho.cases with ⟨rfl, rfl, rfl, _⟩ | ⟨g, rfl, _, _, h1, h2⟩
  · obtain rfl : a = 0 := by omega
    have : ∃ A' c', ∀ w, (Instr.slice 52 (.slice none 0 0) (some (.int .i64 (0 : Int))) none none).run Try.prog w = .ok (.slice A' 0 c') w := by go_simp
    obtain ⟨A', c', h⟩ := this
    exact ⟨A', c', h, fun h => by omega⟩
  · have hI : (0 : Int) ≤ (a : Int) := by omega
    have hJ : (a : Int) ≤ (n : Int) := by omega
    have hK : (n : Int) ≤ (c : Int) := by omega
    by_cases h3 : a < c
    · have hL : (a : Int) < (c : Int) := by omega
      refine ⟨some ⟨g, 0 + a * 1, none⟩, c - a, fun w => ?_, fun _ => ⟨g, rfl, rfl⟩⟩
      go_simp
      try omega
    · obtain rfl : a = c := by omega
      obtain rfl : n = a := by omega
      have : ∃ A' c', ∀ w, (Instr.slice 52 (.slice (some ⟨g, 0, none⟩) n n) (some (.int .i64 (n : Int))) none none).run Try.prog w = .ok (.slice A' 0 c') w := by go_simp
      obtain ⟨A', c', h⟩ := this
      exact ⟨A', c', by simpa using h, fun h => by omega⟩
theorem row_fromI {w : World} {E A' : Option Addr} {n a : Nat} {L : List Int} (h : Row w E n 1 (L.map intCells)) (ha : a ≤ n) (hA : a < n → ∃ g, E = some ⟨g, 0, none⟩ ∧ A' = some ⟨g, 0 + a * 1, none⟩) : Row w A' (n - a) 1 ((L.drop a).map intCells) := by
  by_cases hlt : a < n
  · obtain ⟨g, rfl, rfl⟩ := hA hlt
    exact Row.drop_ h ha
  · obtain rfl : a = n := by omega
    have hl : L.length = a := h.len
    rw [List.drop_eq_nil_of_le (by omega), Nat.sub_self]
    exact Row.nil_ _ _ _
theorem l07Put_k {B m ce : Nat} {E : Option Addr} {L : List Int} (x : Int) (w : World) (hB : B ≤ w.heap.size) (hm : m ≤ 1048576) (ho : Own w B 3 1 E m ce (L.map intCells)) :
    Calls Try.prog 154 #[.slice E m ce, .int .i64 x] w fun e w' => ∃ E' m' ce', e = .returned (.slice E' m' ce') ∧ Own w' B 3 1 E' m' ce' ((putI L x).map intCells) ∧ Below w.heap.size w w' := by
  obtain ⟨i0, hi, hz0, hz1, hz2⟩ := info_parts info_Int
  have hLl : Hid (L.length = m) := (Own.row ho).len
  go_enter Try.func154, Try.ntmps154
  go_wp2_with fail
  go_loopw [5] (fun i wr => ∃ (a : Nat), a ≤ m ∧ i = .int .i64 a ∧ (∀ i y, i < a → L[i]? = some y → y < x) ∧ wr = w) (fun i _ => m - (intOf i).toNat)
  case atStart => exact ⟨0, by omega, rfl, fun i y h => by omega, rfl⟩
  case round =>
    obtain ⟨a, ham, rfl, hall, rfl⟩ := hrel
    by_cases ha1 : a < m
    · obtain ⟨y, g, off, hy, rfl, g0⟩ := RowI.at_ (Own.row ho) ha1
      have h0 : (0 : Int) ≤ (a : Int) := by omega
      have h1 : (a : Int) < (m : Int) := by omega
      have hd : decide ((a : Int) < (m : Int)) = true := decide_eq_true h1
      by_cases hlt : y < x
      · have hnx : Hid (∀ i z, i < a + 1 → L[i]? = some z → z < x) := fun i z hi hz => by
          by_cases h : i < a
          · exact hall i z h hz
          · obtain rfl : i = a := by omega
            rw [hy.out] at hz; obtain rfl := Option.some.inj hz; exact hlt
        clear hall
        go_wp2_with fail
        go_roundw
        case rel => exact ⟨a + 1, by omega, by go_num, hnx.out, by first | trivial | rfl⟩
        case measure => simp [intOf]; omega
      · by_cases heq : y = x
        · subst heq
          have HP := Lib.hid (putI_in hall hy.out)
          clear hall
          go_wp2_with fail
          go_ret
          exact ⟨_, _, _, rfl, by rw [HP.out]; exact ho, Below.refl _ _⟩
        · have HA := Lib.hid (putI_at (a := a) hall (.inr ⟨y, hy.out, hlt, heq⟩))
          clear hall
          have hSt := (slice_toI (n := m) (c := ce) (a := a) ham ho).out
          obtain ⟨Af, cf, hSf, hAf⟩ := slice_fromI (n := m) (c := ce) (a := a) ham ho
          have hRt := Lib.hid (Row.take_ (Own.row ho) ham)
          have hRf := Lib.hid (row_fromI (Own.row ho) ham hAf)
          clear hAf
          go_wp2_with (first
            | (at_builtin; refine wpList_append rfl (.tmp 34) (.tmp 37) 52 rfl wr.heap.size 3 1 8 i0 _ Try.underlying52 hi hz0 hz1 hz2 rfl (by omega) (some ⟨wr.heap.size, 0, none⟩) 0 0 [] rfl (made_any wr _ _ 1 rfl (Nat.le_refl _)) _ a _ ((L.take a).map intCells) rfl (Row.below hRt.out (bAlloc (Below.refl _ _) _)) one_I cell_I (by simp only [maxLen]; omega) (by omega) (by simp) ?_; intro A4 c4 w4 ho4 hg4 hat4; simp only [Nat.zero_add, List.nil_append] at ho4 ⊢; have HB4 := bGrown (bAlloc (Below.refl wr.heap.size wr) _) hg4 (fun q hq => by simp [ob] at hq; omega))
            | (at_builtin; refine wpList_append rfl (.tmp 39) (.tmp 41) 52 rfl wr.heap.size 3 1 8 i0 _ Try.underlying52 hi hz0 hz1 hz2 rfl (by omega) A4 a c4 _ rfl (ho4.alloc_ _) _ 1 1 [[.int .i64 x]] rfl (Row.new1' _ _ [.int .i64 x] 1 _ (by simp)) (by simp) (by simp [Value.oneCell']) (by simp only [maxLen]; omega) (by omega) (by have h9 := HB4.size; simp; omega) ?_; intro A5 c5 w5 ho5 hg5 hat5; have HB5 := bGrown (bAlloc HB4 _) hg5 (fun q hq => by have h9 := (ho4.lt q hq).1; omega))
            | (at_builtin; refine wpList_append rfl (.tmp 43) (.tmp 46) 52 rfl wr.heap.size 3 1 8 i0 _ Try.underlying52 hi hz0 hz1 hz2 rfl (by omega) A5 (a + 1) c5 _ rfl ho5 _ (m - a) _ ((L.drop a).map intCells) rfl (Row.below hRf.out HB5) one_I cell_I (by simp only [maxLen]; omega) (by omega) HB5.size ?_; intro A6 c6 w6 ho6 hg6 hat6; have HB6 := bGrown HB5 hg6 (fun q hq => by have h9 := (ho5.lt q hq).1; omega)))
          go_ret
          refine ⟨_, _, _, rfl, ?_, HB6⟩
          rw [HA.out]
          simp only [List.map_append, List.map_cons, List.append_assoc, List.singleton_append] at ho6 ⊢
          exact ho6.rebase hB
    · have hae : a = m := by omega
      have HA := Lib.hid (putI_at (a := a) hall (.inl (hae.trans hLl.out.symm)))
      have hdI : ¬ (a : Int) < (m : Int) := by omega
      have hd : decide ((a : Int) < (m : Int)) = false := decide_eq_false hdI
      clear hall hae
      have hSt := (slice_toI (n := m) (c := ce) (a := a) ham ho).out
      obtain ⟨Af, cf, hSf, hAf⟩ := slice_fromI (n := m) (c := ce) (a := a) ham ho
      have hRt := Lib.hid (Row.take_ (Own.row ho) ham)
      have hRf := Lib.hid (row_fromI (Own.row ho) ham hAf)
      clear hAf
      go_wp2_with (first
        | (at_builtin; refine wpList_append rfl (.tmp 34) (.tmp 37) 52 rfl wr.heap.size 3 1 8 i0 _ Try.underlying52 hi hz0 hz1 hz2 rfl (by omega) (some ⟨wr.heap.size, 0, none⟩) 0 0 [] rfl (made_any wr _ _ 1 rfl (Nat.le_refl _)) _ a _ ((L.take a).map intCells) rfl (Row.below hRt.out (bAlloc (Below.refl _ _) _)) one_I cell_I (by simp only [maxLen]; omega) (by omega) (by simp) ?_; intro A4 c4 w4 ho4 hg4 hat4; simp only [Nat.zero_add, List.nil_append] at ho4 ⊢; have HB4 := bGrown (bAlloc (Below.refl wr.heap.size wr) _) hg4 (fun q hq => by simp [ob] at hq; omega))
        | (at_builtin; refine wpList_append rfl (.tmp 39) (.tmp 41) 52 rfl wr.heap.size 3 1 8 i0 _ Try.underlying52 hi hz0 hz1 hz2 rfl (by omega) A4 a c4 _ rfl (ho4.alloc_ _) _ 1 1 [[.int .i64 x]] rfl (Row.new1' _ _ [.int .i64 x] 1 _ (by simp)) (by simp) (by simp [Value.oneCell']) (by simp only [maxLen]; omega) (by omega) (by have h9 := HB4.size; simp; omega) ?_; intro A5 c5 w5 ho5 hg5 hat5; have HB5 := bGrown (bAlloc HB4 _) hg5 (fun q hq => by have h9 := (ho4.lt q hq).1; omega))
        | (at_builtin; refine wpList_append rfl (.tmp 43) (.tmp 46) 52 rfl wr.heap.size 3 1 8 i0 _ Try.underlying52 hi hz0 hz1 hz2 rfl (by omega) A5 (a + 1) c5 _ rfl ho5 _ (m - a) _ ((L.drop a).map intCells) rfl (Row.below hRf.out HB5) one_I cell_I (by simp only [maxLen]; omega) (by omega) HB5.size ?_; intro A6 c6 w6 ho6 hg6 hat6; have HB6 := bGrown HB5 hg6 (fun q hq => by have h9 := (ho5.lt q hq).1; omega)))
      go_ret
      refine ⟨_, _, _, rfl, ?_, HB6⟩
      rw [HA.out]
      simp only [List.map_append, List.map_cons, List.append_assoc, List.singleton_append] at ho6 ⊢
      exact ho6.rebase hB
end Go.Proofs.Ytadmeijogbljhaa
