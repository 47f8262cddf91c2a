/- The library's stable sort at few elements is an insertion sort by a key: the plain law; slices.SortStableFunc's text walked at this seat's types. -/
import Derived.Test.YtbfajhfmfdiacaaPush
import Derived.Test.YtbfajhfmfdiacaaObj
import Derived.Test.YtbfajhfmfdiacaaData
import Derived.Test.YtbfajhfmfdiacaaOwn
import Derived.Test.YtbfajhfmfdiacaaProg
import Derived.Test.YtbfajhfmfdiacaaTo
import Derived.BigQuiet
import Derived.Deep.QuietTactic
import Derived.StillTailTactics
import Derived.Deep.RegionHeld3
import Derived.Test.YtbfajhfmfdiacaaMark2
import Derived.Test.YtbfajhfmfdiacaaOpen
import Derived.Test.YtbfajhfmfdiacaaBun
import Derived.Test.YtbfajhfmfdiacaaTake
namespace Go.Proofs.Ytbfajhfmfdiacaa
open Go.RowKit
set_option linter.unusedVariables false
set_option linter.unusedSimpArgs false
set_option maxHeartbeats 1600000
set_option maxRecDepth 100000
/-! ### the plain law -/
section
variable {α : Type} (key : α → Int)
def insR (x : α) (P : List α) : List α := P.filter (fun y => decide (key y ≤ key x)) ++ x :: P.filter (fun y => decide (key x < key y))
def srt (l : List α) : List α := l.foldl (fun P x => insR key x P) []
def Srt (P : List α) : Prop := P.Pairwise (fun a b => key a ≤ key b)
theorem srt_snoc (l : List α) (x : α) : srt key (l ++ [x]) = insR key x (srt key l) := by simp [srt, List.foldl_append]
theorem insR_mem {x y : α} {P : List α} : y ∈ insR key x P ↔ y = x ∨ y ∈ P := by
  simp only [insR, List.mem_append, List.mem_filter, decide_eq_true_eq, List.mem_cons]
  constructor
  · rintro (⟨h, _⟩ | rfl | ⟨h, _⟩)
    · exact .inr h
    · exact .inl rfl
    · exact .inr h
  · rintro (rfl | h)
    · exact .inr (.inl rfl)
    · rcases Int.lt_or_le (key x) (key y) with h2 | h2
      · exact .inr (.inr ⟨h, h2⟩)
      · exact .inl ⟨h, h2⟩
theorem insR_srt {x : α} {P : List α} (h : Srt key P) : Srt key (insR key x P) := by
  unfold Srt insR
  rw [List.pairwise_append]
  refine ⟨h.filter _, ?_, ?_⟩
  · rw [List.pairwise_cons]
    refine ⟨fun a ha => ?_, h.filter _⟩
    simp only [List.mem_filter, decide_eq_true_eq] at ha
    omega
  · intro a ha b hb
    simp only [List.mem_filter, decide_eq_true_eq] at ha
    rcases List.mem_cons.1 hb with rfl | hb
    · exact ha.2
    · simp only [List.mem_filter, decide_eq_true_eq] at hb; omega
theorem srt_Srt (l : List α) : Srt key (srt key l) := by
  have : ∀ (l P : List α), Srt key P → Srt key (l.foldl (fun P x => insR key x P) P) := by
    intro l
    induction l with
    | nil => intro P h; exact h
    | cons x l ih => intro P h; exact ih _ (insR_srt key h)
  exact this l [] List.Pairwise.nil
theorem srt_mem {l : List α} {y : α} : y ∈ srt key l ↔ y ∈ l := by
  have : ∀ (l P : List α), y ∈ l.foldl (fun P x => insR key x P) P ↔ y ∈ l ∨ y ∈ P := by
    intro l
    induction l with
    | nil => intro P; simp
    | cons x l ih => intro P; rw [List.foldl_cons, ih, insR_mem, List.mem_cons, or_assoc, or_left_comm]
  have := this l []
  simpa [srt] using this
theorem insR_len (x : α) (P : List α) : (insR key x P).length = P.length + 1 := by
  unfold insR
  induction P with
  | nil => rfl
  | cons y P ih =>
    simp only [List.length_append, List.length_cons] at ih ⊢
    by_cases h : key y ≤ key x
    · have h2 : ¬ key x < key y := by omega
      simp only [List.filter_cons, h, h2, decide_true, decide_false, if_true, List.length_cons]
      simp only [Bool.false_eq_true, if_false]
      omega
    · have h2 : key x < key y := by omega
      simp only [List.filter_cons, h, h2, decide_true, decide_false, if_true, List.length_cons]
      simp only [Bool.false_eq_true, if_false]
      omega
theorem srt_len (l : List α) : (srt key l).length = l.length := by
  have : ∀ (l P : List α), (l.foldl (fun P x => insR key x P) P).length = l.length + P.length := by
    intro l
    induction l with
    | nil => intro P; simp
    | cons x l ih => intro P; rw [List.foldl_cons, ih, insR_len, List.length_cons]; omega
  show (l.foldl (fun P x => insR key x P) []).length = _
  simpa using this l []
/-- where the walk's inner loop stops, the element stands in its place -/
theorem insR_at {x : α} {P1 P2 : List α} (hs : Srt key (P1 ++ P2)) (h2 : ∀ y ∈ P2, key x < key y) (h1 : P1 = [] ∨ ∃ Q y, P1 = Q ++ [y] ∧ ¬ key x < key y) : insR key x (P1 ++ P2) = P1 ++ x :: P2 := by
  have h3 : ∀ y ∈ P1, key y ≤ key x := by
    rcases h1 with rfl | ⟨Q, z, rfl, hz⟩
    · simp
    · intro y hy
      have hp := (List.pairwise_append.1 hs).1
      rcases List.mem_append.1 hy with hq | hq
      · have := (List.pairwise_append.1 hp).2.2 y hq z (by simp); omega
      · simp at hq; subst hq; omega
  unfold insR
  rw [List.filter_append, List.filter_append]
  have e1 : P1.filter (fun y => decide (key y ≤ key x)) = P1 := List.filter_eq_self.2 fun y hy => by simpa using h3 y hy
  have e2 : P2.filter (fun y => decide (key y ≤ key x)) = [] := List.filter_eq_nil_iff.2 fun y hy => by have := h2 y hy; simp; omega
  have e3 : P1.filter (fun y => decide (key x < key y)) = [] := List.filter_eq_nil_iff.2 fun y hy => by have := h3 y hy; simp; omega
  have e4 : P2.filter (fun y => decide (key x < key y)) = P2 := List.filter_eq_self.2 fun y hy => by simpa using h2 y hy
  rw [e1, e2, e3, e4]; simp
/-- the outer loop: the first i elements are sorted -/
def OutS (l L : List α) (i : Nat) : Prop := L = srt key (l.take i) ++ l.drop i
/-- the inner loop: element i on its way down, now at place j -/
def InS (l L : List α) (i j : Nat) : Prop := ∃ x P1 P2, l[i]? = some x ∧ P1 ++ P2 = srt key (l.take i) ∧ P1.length = j ∧ L = P1 ++ x :: (P2 ++ l.drop (i + 1)) ∧ ∀ y ∈ P2, key x < key y
theorem OutS.start {l : List α} {n : Nat} (hl : Hid (l.length = n)) (h : 0 < n) : OutS key l l 1 := by
  have : l.length = n := hl
  unfold OutS
  cases l with
  | nil => simp at this; omega
  | cons x l => rfl
theorem OutS.nil_ : OutS key [] [] 1 := rfl
theorem OutS.enter {l L : List α} {i n : Nat} (h : OutS key l L i) (hl : Hid (l.length = n)) (hi : i < n) : InS key l L i i := by
  have hl' : l.length = n := hl
  have hx : l[i]? = some (l[i]'(by omega)) := List.getElem?_eq_getElem _
  refine ⟨_, srt key (l.take i), [], hx, by simp, by rw [srt_len]; simp; omega, ?_, by simp⟩
  unfold OutS at h
  rw [h, List.drop_eq_getElem_cons (by omega)]; simp
theorem InS.leave {l L : List α} {i j : Nat} (h : InS key l L i j) (hs : j = 0 ∨ ∃ x y, L[j]? = some x ∧ L[j - 1]? = some y ∧ 0 < j ∧ ¬ key x < key y) : OutS key l L (i + 1) := by
  obtain ⟨x, P1, P2, hx, hP, hj, hL, h2⟩ := h
  obtain ⟨hi, rfl⟩ := List.getElem?_eq_some_iff.1 hx
  unfold OutS
  rw [List.take_succ_eq_append_getElem hi, srt_snoc, ← hP, insR_at key (by rw [hP]; exact srt_Srt key _) h2 ?_, hL]
  · simp
  · rcases hs with h0 | ⟨x', y', hx', hy', hj0, hn⟩
    · left; exact List.eq_nil_of_length_eq_zero (by omega)
    · right
      rw [hL, List.getElem?_append_right (by omega), hj, Nat.sub_self] at hx'
      simp only [List.getElem?_cons_zero, Option.some.injEq] at hx'
      subst hx'
      rcases List.eq_nil_or_concat P1 with h0 | ⟨Q, z, h0⟩
      · subst h0; simp at hj; omega
      · rw [List.concat_eq_append] at h0
        subst h0
        refine ⟨Q, z, rfl, ?_⟩
        simp only [List.length_append, List.length_cons, List.length_nil] at hj
        have e : j - 1 = Q.length := by omega
        rw [hL, List.append_assoc, List.getElem?_append_right (by omega), e, Nat.sub_self] at hy'
        simp only [List.singleton_append, List.getElem?_cons_zero, Option.some.injEq] at hy'
        subst hy'; exact hn
theorem InS.swap {l L : List α} {i m : Nat} {x y : α} (h : InS key l L i (m + 1)) (hx : L[m + 1]? = some x) (hy : L[m]? = some y) (hlt : key x < key y) : InS key l ((L.set (m + 1) y).set m x) i m := by
  obtain ⟨x', P1, P2, hx', hP, hj, hL, h2⟩ := h
  rw [hL, List.getElem?_append_right (by omega), hj, Nat.sub_self] at hx
  simp only [List.getElem?_cons_zero, Option.some.injEq] at hx
  subst hx
  rcases List.eq_nil_or_concat P1 with h0 | ⟨Q, z, h0⟩
  · subst h0; simp at hj
  · rw [List.concat_eq_append] at h0
    subst h0
    simp only [List.length_append, List.length_cons, List.length_nil] at hj
    have e : Q.length = m := by omega
    rw [hL, List.append_assoc, List.getElem?_append_right (by omega), e, Nat.sub_self] at hy
    simp only [List.singleton_append, List.getElem?_cons_zero, Option.some.injEq] at hy
    subst hy
    refine ⟨x', Q, z :: P2, hx', by rw [← hP]; simp, e, ?_, fun w hw => ?_⟩
    · rw [hL]
      simp only [List.append_assoc, List.singleton_append, List.cons_append]
      rw [List.set_append_right _ _ (by omega), show m + 1 - Q.length = 1 by omega]
      simp only [List.set_cons_succ, List.set_cons_zero]
      rw [List.set_append_right _ _ (by omega), e, Nat.sub_self]
      rfl
    · rcases List.mem_cons.1 hw with rfl | hw
      · exact hlt
      · exact h2 w hw
theorem InS.lt {l L : List α} {i j : Nat} (h : InS key l L i j) : j ≤ i ∧ L.length = l.length := by
  obtain ⟨x, P1, P2, hx, hP, hj, hL, h2⟩ := h
  have hi := (List.getElem?_eq_some_iff.1 hx).1
  have h3 : (P1 ++ P2).length = i := by rw [hP, srt_len]; simp; omega
  rw [List.length_append] at h3
  refine ⟨by omega, ?_⟩
  rw [hL]; simp only [List.length_append, List.length_cons, List.length_drop]; omega
theorem InS.mem {l L : List α} {i j : Nat} (h : InS key l L i j) : ∀ y ∈ L, y ∈ l := by
  obtain ⟨x, P1, P2, hx, hP, hj, hL, h2⟩ := h
  intro y hy
  have hmem : ∀ y, y ∈ P1 ++ P2 → y ∈ l := fun y hy => by rw [hP, srt_mem] at hy; exact List.mem_of_mem_take hy
  rw [hL] at hy
  rcases List.mem_append.1 hy with hy | hy
  · exact hmem y (List.mem_append.2 (.inl hy))
  · rcases List.mem_cons.1 hy with rfl | hy
    · exact List.mem_of_getElem? hx
    · rcases List.mem_append.1 hy with hy | hy
      · exact hmem y (List.mem_append.2 (.inr hy))
      · exact List.mem_of_mem_drop hy
theorem OutS.done {l L : List α} {i n : Nat} (h : OutS key l L i) (hl : Hid (l.length = n)) (hi : ¬ i < n) : L = srt key l := by
  have : l.length = n := hl
  unfold OutS at h
  rw [h, List.take_of_length_le (by omega), List.drop_eq_nil_of_le (by omega), List.append_nil]
end
theorem Own.drew_ {w : World} {B e sz n c : Nat} {A : Option Addr} {css : List (List Value)} (h : Own w B e sz A n c css) : Own w.drew B e sz A n c css := h.keep fun _ _ => rfl
theorem own_put1 {w : World} {B e g n c k : Nat} {css : List (List Value)} (u : Value) (h : Own w B e 1 (some ⟨g, 0, none⟩) n c css) (hk : k < css.length) : Own (w.setCell ⟨g, k, none⟩ u) B e 1 (some ⟨g, 0, none⟩) n c (css.set k [u]) := by
  have hcs : css[k]? = some (css[k]'hk) := List.getElem?_eq_getElem hk
  have h1 := h.each _ (List.mem_of_getElem? hcs)
  obtain ⟨a, ha⟩ := vlen1 h1
  rw [ha] at hcs
  simpa using (h.cell hcs (j := 0) (by omega) u).1
theorem own_put3 {w : World} {B e g n c k : Nat} {css : List (List Value)} (u0 u1 u2 : Value) (h : Own w B e 3 (some ⟨g, 0, none⟩) n c css) (hk : k < css.length) : Own (((w.setCell ⟨g, k * 3, none⟩ u0).setCell ⟨g, k * 3 + 1, none⟩ u1).setCell ⟨g, k * 3 + 2, none⟩ u2) B e 3 (some ⟨g, 0, none⟩) n c (css.set k [u0, u1, u2]) := by
  have hcs : css[k]? = some (css[k]'hk) := List.getElem?_eq_getElem hk
  have h1 := h.each _ (List.mem_of_getElem? hcs)
  obtain ⟨a, b, d, ha⟩ := vlen3 h1
  rw [ha] at hcs
  have s0 := (h.cell hcs (j := 0) (by omega) u0).1
  have s1 := (s0.cell (k := k) (cs := [u0, b, d]) (by simp [hk]) (j := 1) (by omega) u1).1
  have s2 := (s1.cell (k := k) (cs := [u0, u1, d]) (by simp [hk]) (j := 2) (by omega) u2).1
  simpa using s2
def cmpI (a b : Int) : Int := if a < b then -1 else if b < a then 1 else 0
theorem Upd.drewN {fs : List Nat} {a b : World} (h : Upd fs a b) (n : Nat) : Upd fs a (b.drewN n) := ⟨h.os, h.tape, h.output, h.size, h.block⟩
theorem cmp_Compare_c (a b : Int) (w : World) : Calls Try.prog 37 #[.int .i64 a, .int .i64 b] w fun e w' => e = rInt (cmpI a b) ∧ w' = w := by
  by_cases h1 : a < b
  · have e : cmpI a b = -1 := by simp [cmpI, h1]
    rw [e]
    go_enter Try.func37, Try.ntmps37
    go_wp2
    go_ret
    exact ⟨rfl, rfl⟩
  · by_cases h2 : b < a
    · have e : cmpI a b = 1 := by simp [cmpI, h1, h2]
      rw [e]
      go_enter Try.func37, Try.ntmps37
      go_wp2
      go_ret
      exact ⟨rfl, rfl⟩
    · have e : cmpI a b = 0 := by simp [cmpI, h1, h2]
      rw [e]
      go_enter Try.func37, Try.ntmps37
      go_wp2
      go_ret
      exact ⟨rfl, rfl⟩

theorem insertionSort_int (g n c : Nat) (l : List Int) (key : Int → Int) (p1 p2 : Value) (w : World) (hn : n ≤ 1048576) (ho : Own w 0 3 1 (some ⟨g, 0, none⟩) n c (l.map intCells))
    (hcmp : ∀ wr, Upd [g] w wr → ∀ x ∈ l, ∀ y ∈ l, Calls Try.prog 58 #[.int .i64 x, .int .i64 y, p1, p2] wr fun e w' => e = rInt (cmpI (key x) (key y)) ∧ ∃ m, w' = wr.drewN m) :
    Calls Try.prog 76 #[.slice (some ⟨g, 0, none⟩) n c, .int .i64 0, .int .i64 n, .func (.func 58) #[] #[p1, p2]] w fun e w' => e = .returned (.tuple #[]) ∧ Own w' 0 3 1 (some ⟨g, 0, none⟩) n c ((srt key l).map intCells) ∧ Upd [g] w w' := by
  have hl : Hid (l.length = n) := by have := ho.len; simpa [Hid] using this
  go_enter Try.func76, Try.ntmps76
  go_wp2_with fail
  go_loopw [8, 9] (fun vi vj wr => ∃ (i : Nat) (L : List Int), vi = .int .i64 i ∧ 0 < i ∧ i ≤ n + 1 ∧ Own wr 0 3 1 (some ⟨g, 0, none⟩) n c (L.map intCells) ∧ OutS key l L i ∧ Upd [g] w wr) (fun vi _ _ => n + 1 - (intOf vi).toNat)
  case atStart =>
    refine ⟨1, l, rfl, by omega, by omega, ho, ?_, Upd.refl _ _⟩
    rcases Nat.eq_zero_or_pos n with h0 | h0
    · have : l = [] := List.eq_nil_of_length_eq_zero (by rw [hl.out, h0])
      subst this; exact OutS.nil_ key
    · exact OutS.start key hl h0
  case round =>
    obtain ⟨i, L, rfl, hi0, hin, hown, hO, hup⟩ := hrel
    obtain ⟨wo, rfl⟩ : ∃ wo : World, wo = wr := ⟨_, rfl⟩
    by_cases hlt : i < n
    rotate_left
    · have hfin := hO.done key hl hlt
      go_wp2_with fail
      go_end0
      exact ⟨rfl, by rw [← hfin]; exact hown, hup⟩
    have hIn := hO.enter key hl hlt
    clear hO
    go_wp2_with fail
    go_loopw [9] (fun vj wr => ∃ (j : Nat) (L : List Int), vj = .int .i64 j ∧ Own wr 0 3 1 (some ⟨g, 0, none⟩) n c (L.map intCells) ∧ InS key l L i j ∧ Upd [g] w wr) (fun vj _ => (intOf vj).toNat)
    case atStart => exact ⟨i, L, rfl, hown, hIn, hup⟩
    case round =>
      obtain ⟨j, L, rfl, hown, hIn, hup⟩ := hrel
      have hji := (hIn.lt key).1
      have hLl : Hid (L.length = n) := by have := (hIn.lt key).2; have h2 := hl.out; rw [Hid, this, h2]
      rcases j with _ | m
      · have hout := hIn.leave key (.inl rfl)
        have hd0 : decide ((0 : Int) < 0) = false := by decide
        go_wp2_with fail
        go_quiet (fail)
        go_wp2_with fail
        go_roundw
        case rel => exact ⟨i + 1, L, by go_num, by omega, by omega, hown.keep (fun _ _ => rfl), hout, hup.drewN _⟩
        case measure => simp [intOf]; omega
      obtain ⟨x, hX⟩ : ∃ x, L[m + 1]? = some x := ⟨_, List.getElem?_eq_getElem (by have := hLl.out; omega)⟩
      obtain ⟨y, hY⟩ : ∃ y, L[m]? = some y := ⟨_, List.getElem?_eq_getElem (by have := hLl.out; omega)⟩
      have hC := fun q => hcmp (wr.drewN q) (hup.drewN q) x (hIn.mem key x (List.mem_of_getElem? hX)) y (hIn.mem key y (List.mem_of_getElem? hY))
      have cx0 : wr.cell? ⟨g, m + 1, none⟩ = some (.int .i64 x) := by simpa using own_cells hown (by rw [List.getElem?_map, hX]; rfl) 0 _ rfl
      have cy0 : wr.cell? ⟨g, m, none⟩ = some (.int .i64 y) := by simpa using own_cells hown (by rw [List.getElem?_map, hY]; rfl) 0 _ rfl
      have gz := hown.frozen rfl
      have hgl : g < wr.heap.size := (hown.lt g rfl).2
      have b0 : (0 : Int) ≤ (m : Int) := by omega
      have b1 : (0 : Int) ≤ (m : Int) + 1 := by omega
      have b2 : (m : Int) < (n : Int) := by omega
      have b3 : (m : Int) + 1 < (n : Int) := by omega
      have b4 : (0 : Int) < (m : Int) + 1 := by omega
      have bw : IntKind.i64.wrap (m : Int) = (m : Int) := by rw [IntKind.wrap_i64]; omega
      by_cases hk : key x < key y
      · have hsw := hIn.swap key hX hY hk
        have ev : cmpI (key x) (key y) = -1 := by simp [cmpI, hk]
        rw [ev] at hC
        have HIN := Lib.hid hsw
        have HOWN : Hid (∀ q, Own (((wr.drewN q).setCell ⟨g, m + 1, none⟩ (.int .i64 y)).setCell ⟨g, m, none⟩ (.int .i64 x)) 0 3 1 (some ⟨g, 0, none⟩) n c (((L.set (m + 1) y).set m x).map intCells)) := fun q => by
          rw [List.map_set, List.map_set]
          have h1 : Own (((wr.drewN q).setCell ⟨g, m + 1, none⟩ (.int .i64 y)).setCell ⟨g, m, none⟩ (.int .i64 x)) 0 3 1 (some ⟨g, 0, none⟩) n c (((L.map intCells).set (m + 1) (intCells y)).set m (intCells x)) := own_put1 (k := m) (.int .i64 x) (own_put1 (k := m + 1) (.int .i64 y) (hown.keep fun _ _ => rfl) (by have := hLl.out; simp; omega)) (by have := hLl.out; simp; omega)
          exact h1
        have HUP : Hid (∀ q, Upd [g] w (((wr.drewN q).setCell ⟨g, m + 1, none⟩ (.int .i64 y)).setCell ⟨g, m, none⟩ (.int .i64 x))) := fun q => ((hup.drewN q).set_in (by simp) _).set_in (by simp) _
        go_wp2_with fail
        go_quiet (first | (go_at_call 58; refine Calls.quiet_of (hC _)))
        go_wp2_with fail
        have HC := Lib.hid hC
        clear hC
        go_region
        all_goals
          go_wp2_with fail
          go_roundw
          case rel => exact ⟨m, (L.set (m + 1) y).set m x, by go_num, HOWN.out _, HIN.out, HUP.out _⟩
          case measure => simp [intOf]
      · have hout := hIn.leave key (.inr ⟨x, y, hX, by simpa using hY, by omega, hk⟩)
        have hv : ¬ cmpI (key x) (key y) < 0 := by unfold cmpI; rw [if_neg hk]; split <;> omega
        generalize cmpI (key x) (key y) = v at hC hv
        have HOUT := Lib.hid hout
        clear hIn hout
        go_wp2_with fail
        go_quiet (first | (go_at_call 58; refine Calls.quiet_of (hC _)))
        go_wp2_with fail
        go_roundw
        case rel => exact ⟨i + 1, L, by go_num, by omega, by omega, hown.keep (fun _ _ => rfl), HOUT.out, hup.drewN _⟩
        case measure => simp [intOf]; omega
theorem stableCmp_int (g n c : Nat) (l : List Int) (key : Int → Int) (p1 p2 : Value) (w : World) (hn : n ≤ 19) (ho : Own w 0 3 1 (some ⟨g, 0, none⟩) n c (l.map intCells))
    (hcmp : ∀ wr, Upd [g] w wr → ∀ x ∈ l, ∀ y ∈ l, Calls Try.prog 58 #[.int .i64 x, .int .i64 y, p1, p2] wr fun e w' => e = rInt (cmpI (key x) (key y)) ∧ ∃ m, w' = wr.drewN m) :
    Calls Try.prog 70 #[.slice (some ⟨g, 0, none⟩) n c, .int .i64 n, .func (.func 58) #[] #[p1, p2]] w fun e w' => e = .returned (.tuple #[]) ∧ Own w' 0 3 1 (some ⟨g, 0, none⟩) n c ((srt key l).map intCells) ∧ Upd [g] w w' := by
  have hnI : ¬ (20 : Int) ≤ (n : Int) := by omega
  have hnJ : ¬ (20 : Int) < (n : Int) := by omega
  go_enter Try.func70, Try.ntmps70
  go_wp2_with fail
  go_loopw [7, 8] (fun a b wr => a = .int .i64 0 ∧ b = .int .i64 20 ∧ wr = w) (fun _ _ _ => 0)
  case atStart => exact ⟨rfl, rfl, rfl⟩
  case round =>
    obtain ⟨rfl, rfl, rfl⟩ := hrel
    go_wp2_with fail
    refine Calls.mono (insertionSort_int g n c l key p1 p2 _ (by omega) ho hcmp) ?_
    rintro e w1 ⟨rfl, ho1, hu1⟩
    obtain ⟨wo, hwo⟩ : ∃ wo : World, wo = w1 := ⟨_, rfl⟩
    go_wp2_with fail
    go_loopw [6, 7, 8, 9] (fun a _ _ _ wr => a = .int .i64 20 ∧ wr = w1) (fun _ _ _ _ _ => 0)
    case atStart => exact ⟨rfl, rfl⟩
    case round =>
      obtain ⟨rfl, rfl⟩ := hrel
      go_wp2_with fail
      go_end0
      exact ⟨rfl, ho1, hu1⟩
theorem sortStable_int (g n c : Nat) (l : List Int) (key : Int → Int) (p1 p2 : Value) (w : World) (hn : n ≤ 19) (ho : Own w 0 3 1 (some ⟨g, 0, none⟩) n c (l.map intCells))
    (hcmp : ∀ wr, Upd [g] w wr → ∀ x ∈ l, ∀ y ∈ l, Calls Try.prog 58 #[.int .i64 x, .int .i64 y, p1, p2] wr fun e w' => e = rInt (cmpI (key x) (key y)) ∧ ∃ m, w' = wr.drewN m) :
    Calls Try.prog 57 #[.slice (some ⟨g, 0, none⟩) n c, .func (.func 58) #[] #[p1, p2]] w fun e w' => e = .returned (.tuple #[]) ∧ Own w' 0 3 1 (some ⟨g, 0, none⟩) n c ((srt key l).map intCells) ∧ Upd [g] w w' := by
  go_enter Try.func57, Try.ntmps57
  go_wp2_with fail
  refine Calls.mono (stableCmp_int g n c l key p1 p2 _ hn ho hcmp) ?_
  rintro e w1 ⟨rfl, ho1, hu1⟩
  go_wp2_with fail
  go_end0
  exact ⟨rfl, ho1, hu1⟩

theorem insertionSort_PE (g n c : Nat) (l : List PlaceEntry) (key : PlaceEntry → Int)  (w : World) (hn : n ≤ 1048576) (ho : Own w 0 73 3 (some ⟨g, 0, none⟩) n c (l.map PlaceEntry.cells))
    (hcmp : ∀ wr, Upd [g] w wr → ∀ x ∈ l, ∀ y ∈ l, Calls Try.prog 36 #[vPlaceEntry x.chunk x.key x.place, vPlaceEntry y.chunk y.key y.place] wr fun e w' => e = rInt (cmpI (key x) (key y)) ∧ Below wr.heap.size wr w') :
    Calls Try.prog 68 #[.slice (some ⟨g, 0, none⟩) n c, .int .i64 0, .int .i64 n, .func (.func 36) #[] #[]] w fun e w' => e = .returned (.tuple #[]) ∧ Own w' 0 73 3 (some ⟨g, 0, none⟩) n c ((srt key l).map PlaceEntry.cells) ∧ Upd [g] w w' := by
  have hl : Hid (l.length = n) := by have := ho.len; simpa [Hid] using this
  go_enter Try.func68, Try.ntmps68
  go_wp2_with fail
  go_loopw [8, 9] (fun vi vj wr => ∃ (i : Nat) (L : List PlaceEntry), vi = .int .i64 i ∧ 0 < i ∧ i ≤ n + 1 ∧ Own wr 0 73 3 (some ⟨g, 0, none⟩) n c (L.map PlaceEntry.cells) ∧ OutS key l L i ∧ Upd [g] w wr) (fun vi _ _ => n + 1 - (intOf vi).toNat)
  case atStart =>
    refine ⟨1, l, rfl, by omega, by omega, ho, ?_, Upd.refl _ _⟩
    rcases Nat.eq_zero_or_pos n with h0 | h0
    · have : l = [] := List.eq_nil_of_length_eq_zero (by rw [hl.out, h0])
      subst this; exact OutS.nil_ key
    · exact OutS.start key hl h0
  case round =>
    obtain ⟨i, L, rfl, hi0, hin, hown, hO, hup⟩ := hrel
    obtain ⟨wo, rfl⟩ : ∃ wo : World, wo = wr := ⟨_, rfl⟩
    by_cases hlt : i < n
    rotate_left
    · have hfin := hO.done key hl hlt
      go_wp2_with fail
      go_end0
      exact ⟨rfl, by rw [← hfin]; exact hown, hup⟩
    have hIn := hO.enter key hl hlt
    clear hO
    go_wp2_with fail
    go_loopw [9] (fun vj wr => ∃ (j : Nat) (L : List PlaceEntry), vj = .int .i64 j ∧ Own wr 0 73 3 (some ⟨g, 0, none⟩) n c (L.map PlaceEntry.cells) ∧ InS key l L i j ∧ Upd [g] w wr) (fun vj _ => (intOf vj).toNat)
    case atStart => exact ⟨i, L, rfl, hown, hIn, hup⟩
    case round =>
      obtain ⟨j, L, rfl, hown, hIn, hup⟩ := hrel
      have hji := (hIn.lt key).1
      have hLl : Hid (L.length = n) := by have := (hIn.lt key).2; have h2 := hl.out; rw [Hid, this, h2]
      rcases j with _ | m
      · have hout := hIn.leave key (.inl rfl)
        have hd0 : decide ((0 : Int) < 0) = false := by decide
        go_wp2_with fail
        go_quiet (fail)
        go_wp2_with fail
        go_roundw
        case rel => exact ⟨i + 1, L, by go_num, by omega, by omega, hown.keep (fun _ _ => rfl), hout, hup.drewN _⟩
        case measure => simp [intOf]; omega
      obtain ⟨x, hX⟩ : ∃ x, L[m + 1]? = some x := ⟨_, List.getElem?_eq_getElem (by have := hLl.out; omega)⟩
      obtain ⟨y, hY⟩ : ∃ y, L[m]? = some y := ⟨_, List.getElem?_eq_getElem (by have := hLl.out; omega)⟩
      have hC := fun wz (hz : Upd [g] w wz) => hcmp wz hz x (hIn.mem key x (List.mem_of_getElem? hX)) y (hIn.mem key y (List.mem_of_getElem? hY))
      have cx0 : wr.cell? ⟨g, (m + 1) * 3, none⟩ = some (.int .i64 x.chunk) := own_cells hown (by rw [List.getElem?_map, hX]; rfl) 0 _ rfl
      have cx1 : wr.cell? ⟨g, (m + 1) * 3 + 1, none⟩ = some (.int .i64 x.key) := own_cells hown (by rw [List.getElem?_map, hX]; rfl) 1 _ rfl
      have cx2 : wr.cell? ⟨g, (m + 1) * 3 + 2, none⟩ = some (.int .i64 x.place) := own_cells hown (by rw [List.getElem?_map, hX]; rfl) 2 _ rfl
      have cy0 : wr.cell? ⟨g, m * 3, none⟩ = some (.int .i64 y.chunk) := own_cells hown (by rw [List.getElem?_map, hY]; rfl) 0 _ rfl
      have cy1 : wr.cell? ⟨g, m * 3 + 1, none⟩ = some (.int .i64 y.key) := own_cells hown (by rw [List.getElem?_map, hY]; rfl) 1 _ rfl
      have cy2 : wr.cell? ⟨g, m * 3 + 2, none⟩ = some (.int .i64 y.place) := own_cells hown (by rw [List.getElem?_map, hY]; rfl) 2 _ rfl
      have gz := hown.frozen rfl
      have hgl : g < wr.heap.size := (hown.lt g rfl).2
      have b0 : (0 : Int) ≤ (m : Int) := by omega
      have b1 : (0 : Int) ≤ (m : Int) + 1 := by omega
      have b2 : (m : Int) < (n : Int) := by omega
      have b3 : (m : Int) + 1 < (n : Int) := by omega
      have b4 : (0 : Int) < (m : Int) + 1 := by omega
      have bw : IntKind.i64.wrap (m : Int) = (m : Int) := by rw [IntKind.wrap_i64]; omega
      by_cases hk : key x < key y
      · have hsw := hIn.swap key hX hY hk
        have ev : cmpI (key x) (key y) = -1 := by simp [cmpI, hk]
        rw [ev] at hC
        have HIN := Lib.hid hsw
        have HOWN : Hid (∀ (wz : World) (_ : Below wr.heap.size wr wz), Own ((((((wz.setCell ⟨g, (m + 1) * 3, none⟩ (.int .i64 y.chunk)).setCell ⟨g, (m + 1) * 3 + 1, none⟩ (.int .i64 y.key)).setCell ⟨g, (m + 1) * 3 + 2, none⟩ (.int .i64 y.place)).setCell ⟨g, m * 3, none⟩ (.int .i64 x.chunk)).setCell ⟨g, m * 3 + 1, none⟩ (.int .i64 x.key)).setCell ⟨g, m * 3 + 2, none⟩ (.int .i64 x.place)).drew 0 73 3 (some ⟨g, 0, none⟩) n c (((L.set (m + 1) y).set m x).map PlaceEntry.cells)) := fun wz hz => by
          rw [List.map_set, List.map_set]
          have h1 : Own ((((((wz.setCell ⟨g, (m + 1) * 3, none⟩ (.int .i64 y.chunk)).setCell ⟨g, (m + 1) * 3 + 1, none⟩ (.int .i64 y.key)).setCell ⟨g, (m + 1) * 3 + 2, none⟩ (.int .i64 y.place)).setCell ⟨g, m * 3, none⟩ (.int .i64 x.chunk)).setCell ⟨g, m * 3 + 1, none⟩ (.int .i64 x.key)).setCell ⟨g, m * 3 + 2, none⟩ (.int .i64 x.place)) 0 73 3 (some ⟨g, 0, none⟩) n c (((L.map PlaceEntry.cells).set (m + 1) (PlaceEntry.cells y)).set m (PlaceEntry.cells x)) := own_put3 (k := m) (.int .i64 x.chunk) (.int .i64 x.key) (.int .i64 x.place) (own_put3 (k := m + 1) (.int .i64 y.chunk) (.int .i64 y.key) (.int .i64 y.place) (hown.below hz) (by have := hLl.out; simp; omega)) (by have := hLl.out; simp; omega)
          exact h1.drew_
        have HUP : Hid (∀ (wz : World) (_ : Below wr.heap.size wr wz), Upd [g] w ((((((wz.setCell ⟨g, (m + 1) * 3, none⟩ (.int .i64 y.chunk)).setCell ⟨g, (m + 1) * 3 + 1, none⟩ (.int .i64 y.key)).setCell ⟨g, (m + 1) * 3 + 2, none⟩ (.int .i64 y.place)).setCell ⟨g, m * 3, none⟩ (.int .i64 x.chunk)).setCell ⟨g, m * 3 + 1, none⟩ (.int .i64 x.key)).setCell ⟨g, m * 3 + 2, none⟩ (.int .i64 x.place)).drew) := fun wz hz => (((((((hup.then_below hz).set_in (by simp) _).set_in (by simp) _).set_in (by simp) _).set_in (by simp) _).set_in (by simp) _).set_in (by simp) _).then_drew
        go_wp2_with fail
        have rcx0 := cell_regrown cx0
        have rcx1 := cell_regrown cx1
        have rcx2 := cell_regrown cx2
        have rcy0 := cell_regrown cy0
        have rcy1 := cell_regrown cy1
        have rcy2 := cell_regrown cy2
        have cV : ∀ d os, Calls Try.prog 36 #[vPlaceEntry x.chunk x.key x.place, vPlaceEntry y.chunk y.key y.place] (Go.Sort.grow (redrawn wr d) os) fun e w2 => e = .returned (.int .i64 (-1)) ∧ ∃ p : Regrown, w2 = Go.Sort.grow (redrawn wr p.d) p.os := fun d os => Calls.regrown_of (hC _ (hup.then_below (below_regrown wr d os)))
        refine wp_region_quiet_below (by kernel_rfl) (by kernel_rfl) ?_
        repeat (go_big_quiet_step (first | exact cV _ _))
        refine wpQuiet_nil ?_
        intro _ hw
        obtain ⟨⟨dq, osq⟩, hw⟩ := hw
        subst hw
        obtain ⟨wq, hwq⟩ : ∃ wq : World, Go.Sort.grow (redrawn wr dq) osq = wq := ⟨_, rfl⟩
        have hbq : Below wr.heap.size wr wq := by rw [← hwq]; exact below_regrown wr dq osq
        rw [hwq]
        clear hwq cV rcx0 rcx1 rcx2 rcy0 rcy1 rcy2
        have qcx0 := bCell hbq cx0
        have qcx1 := bCell hbq cx1
        have qcx2 := bCell hbq cx2
        have qcy0 := bCell hbq cy0
        have qcy1 := bCell hbq cy1
        have qcy2 := bCell hbq cy2
        have gzq : ∀ o, wq.frozen? ⟨g, o, none⟩ = false := fun o => (bBoxF hbq g hgl o).trans (gz o)
        clear cx0 cx1 cx2 cy0 cy1 cy2
        go_wp2_with fail
        go_region
        all_goals
          go_wp2_with fail
          go_roundw
          case rel => exact ⟨m, (L.set (m + 1) y).set m x, by go_num, HOWN.out wq hbq, HIN.out, HUP.out wq hbq⟩
          case measure => simp [intOf]
      · have hout := hIn.leave key (.inr ⟨x, y, hX, by simpa using hY, by omega, hk⟩)
        have hv : ¬ cmpI (key x) (key y) < 0 := by unfold cmpI; rw [if_neg hk]; split <;> omega
        generalize cmpI (key x) (key y) = v at hC hv
        have HOUT := Lib.hid hout
        clear hIn hout
        go_wp2_with fail
        have rcx0 := cell_regrown cx0
        have rcx1 := cell_regrown cx1
        have rcx2 := cell_regrown cx2
        have rcy0 := cell_regrown cy0
        have rcy1 := cell_regrown cy1
        have rcy2 := cell_regrown cy2
        have cV : ∀ d os, Calls Try.prog 36 #[vPlaceEntry x.chunk x.key x.place, vPlaceEntry y.chunk y.key y.place] (Go.Sort.grow (redrawn wr d) os) fun e w2 => e = .returned (.int .i64 (v)) ∧ ∃ p : Regrown, w2 = Go.Sort.grow (redrawn wr p.d) p.os := fun d os => Calls.regrown_of (hC _ (hup.then_below (below_regrown wr d os)))
        refine wp_region_quiet_below (by kernel_rfl) (by kernel_rfl) ?_
        repeat (go_big_quiet_step (first | exact cV _ _))
        refine wpQuiet_nil ?_
        intro _ hw
        obtain ⟨⟨dq, osq⟩, hw⟩ := hw
        subst hw
        obtain ⟨wq, hwq⟩ : ∃ wq : World, Go.Sort.grow (redrawn wr dq) osq = wq := ⟨_, rfl⟩
        have hbq : Below wr.heap.size wr wq := by rw [← hwq]; exact below_regrown wr dq osq
        rw [hwq]
        clear hwq cV rcx0 rcx1 rcx2 rcy0 rcy1 rcy2
        have qcx0 := bCell hbq cx0
        have qcx1 := bCell hbq cx1
        have qcx2 := bCell hbq cx2
        have qcy0 := bCell hbq cy0
        have qcy1 := bCell hbq cy1
        have qcy2 := bCell hbq cy2
        have gzq : ∀ o, wq.frozen? ⟨g, o, none⟩ = false := fun o => (bBoxF hbq g hgl o).trans (gz o)
        clear cx0 cx1 cx2 cy0 cy1 cy2
        go_wp2_with fail
        go_roundw
        case rel => exact ⟨i + 1, L, by go_num, by omega, by omega, hown.below hbq, HOUT.out, hup.then_below hbq⟩
        case measure => simp [intOf]; omega
theorem stableCmp_PE (g n c : Nat) (l : List PlaceEntry) (key : PlaceEntry → Int)  (w : World) (hn : n ≤ 19) (ho : Own w 0 73 3 (some ⟨g, 0, none⟩) n c (l.map PlaceEntry.cells))
    (hcmp : ∀ wr, Upd [g] w wr → ∀ x ∈ l, ∀ y ∈ l, Calls Try.prog 36 #[vPlaceEntry x.chunk x.key x.place, vPlaceEntry y.chunk y.key y.place] wr fun e w' => e = rInt (cmpI (key x) (key y)) ∧ Below wr.heap.size wr w') :
    Calls Try.prog 55 #[.slice (some ⟨g, 0, none⟩) n c, .int .i64 n, .func (.func 36) #[] #[]] w fun e w' => e = .returned (.tuple #[]) ∧ Own w' 0 73 3 (some ⟨g, 0, none⟩) n c ((srt key l).map PlaceEntry.cells) ∧ Upd [g] w w' := by
  have hnI : ¬ (20 : Int) ≤ (n : Int) := by omega
  have hnJ : ¬ (20 : Int) < (n : Int) := by omega
  go_enter Try.func55, Try.ntmps55
  go_wp2_with fail
  go_loopw [7, 8] (fun a b wr => a = .int .i64 0 ∧ b = .int .i64 20 ∧ wr = w) (fun _ _ _ => 0)
  case atStart => exact ⟨rfl, rfl, rfl⟩
  case round =>
    obtain ⟨rfl, rfl, rfl⟩ := hrel
    go_wp2_with fail
    refine Calls.mono (insertionSort_PE g n c l key  _ (by omega) ho hcmp) ?_
    rintro e w1 ⟨rfl, ho1, hu1⟩
    obtain ⟨wo, hwo⟩ : ∃ wo : World, wo = w1 := ⟨_, rfl⟩
    go_wp2_with fail
    go_loopw [6, 7, 8, 9] (fun a _ _ _ wr => a = .int .i64 20 ∧ wr = w1) (fun _ _ _ _ _ => 0)
    case atStart => exact ⟨rfl, rfl⟩
    case round =>
      obtain ⟨rfl, rfl⟩ := hrel
      go_wp2_with fail
      go_end0
      exact ⟨rfl, ho1, hu1⟩
theorem sortStable_PE (g n c : Nat) (l : List PlaceEntry) (key : PlaceEntry → Int)  (w : World) (hn : n ≤ 19) (ho : Own w 0 73 3 (some ⟨g, 0, none⟩) n c (l.map PlaceEntry.cells))
    (hcmp : ∀ wr, Upd [g] w wr → ∀ x ∈ l, ∀ y ∈ l, Calls Try.prog 36 #[vPlaceEntry x.chunk x.key x.place, vPlaceEntry y.chunk y.key y.place] wr fun e w' => e = rInt (cmpI (key x) (key y)) ∧ Below wr.heap.size wr w') :
    Calls Try.prog 35 #[.slice (some ⟨g, 0, none⟩) n c, .func (.func 36) #[] #[]] w fun e w' => e = .returned (.tuple #[]) ∧ Own w' 0 73 3 (some ⟨g, 0, none⟩) n c ((srt key l).map PlaceEntry.cells) ∧ Upd [g] w w' := by
  go_enter Try.func35, Try.ntmps35
  go_wp2_with fail
  refine Calls.mono (stableCmp_PE g n c l key  _ hn ho hcmp) ?_
  rintro e w1 ⟨rfl, ho1, hu1⟩
  go_wp2_with fail
  go_end0
  exact ⟨rfl, ho1, hu1⟩
end Go.Proofs.Ytbfajhfmfdiacaa
