/- A sorted list without repeats, one number more; the test whether a number is in a list: what l07Put and hasInt answer. -/
import Derived.Test.YtbfajhfmfdiacaaIsIdx
namespace Go.Proofs.Ytbfajhfmfdiacaa
open Go.RowKit
set_option linter.unusedVariables false
set_option linter.unusedSimpArgs false
set_option maxHeartbeats 1600000
set_option maxRecDepth 100000
theorem one_I {l : List Int} : ∀ cs ∈ l.map intCells, cs.length = 1 := fun cs h => by obtain ⟨f, _, rfl⟩ := List.mem_map.1 h; rfl
theorem cell_I {l : List Int} : ∀ cs ∈ l.map intCells, ∀ u ∈ cs, u.oneCell' = true := fun cs h => by obtain ⟨f, _, rfl⟩ := List.mem_map.1 h; exact one_of rfl
/-- n put into an ascending list, if it is not there -/
def putI : List Int → Int → List Int
  | [], n => [n]
  | x :: l, n => if x < n then x :: putI l n else if x = n then x :: l else n :: x :: l
theorem putI_at {l : List Int} {n : Int} {a : Nat} (h1 : ∀ i x, i < a → l[i]? = some x → x < n) (h2 : a = l.length ∨ ∃ x, l[a]? = some x ∧ ¬ x < n ∧ x ≠ n) : putI l n = l.take a ++ n :: l.drop a := by
  induction l generalizing a with
  | nil => simp [putI]
  | cons x l ih =>
    rw [putI]
    rcases a with _ | a
    · rcases h2 with h2 | ⟨y, hy, h2, h3⟩
      · simp at h2
      · simp at hy; subst hy; simp [h2, h3]
    · rw [if_pos (h1 0 x (by omega) rfl), ih (a := a) (fun i y hi hy => h1 (i + 1) y (by omega) (by simpa using hy)) ?_]
      · simp
      · rcases h2 with h2 | ⟨y, hy, h2⟩
        · left; simpa using h2
        · right; exact ⟨y, by simpa using hy, h2⟩
theorem putI_in {l : List Int} {n : Int} {a : Nat} (h1 : ∀ i x, i < a → l[i]? = some x → x < n) (h2 : l[a]? = some n) : putI l n = l := by
  induction l generalizing a with
  | nil => simp at h2
  | cons x l ih =>
    rw [putI]
    rcases a with _ | a
    · simp at h2; subst h2; simp
    · rw [if_pos (h1 0 x (by omega) rfl), ih (a := a) (fun i y hi hy => h1 (i + 1) y (by omega) (by simpa using hy)) (by simpa using h2)]
def AscI (l : List Int) : Prop := l.Pairwise (· < ·)
theorem putI_mem {l : List Int} {n x : Int} : x ∈ putI l n ↔ x = n ∨ x ∈ l := by
  induction l with
  | nil => simp [putI]
  | cons y l ih =>
    rw [putI]
    split
    · rw [List.mem_cons, ih, List.mem_cons, or_left_comm]
    · split
      · rename_i h; subst h; simp
      · simp
theorem putI_asc {l : List Int} {n : Int} (h : AscI l) : AscI (putI l n) := by
  induction l with
  | nil => exact List.pairwise_singleton _ _
  | cons y l ih =>
    obtain ⟨h1, h2⟩ := List.pairwise_cons.1 h
    rw [putI]
    split
    · rename_i hlt
      refine List.pairwise_cons.2 ⟨fun b hb => ?_, ih h2⟩
      rcases putI_mem.1 hb with rfl | hb
      · exact hlt
      · exact h1 b hb
    · split
      · exact h
      · rename_i h3 h4
        refine List.pairwise_cons.2 ⟨fun b hb => ?_, h⟩
        rcases List.mem_cons.1 hb with rfl | hb
        · omega
        · have := h1 b hb; omega
theorem putI_len {l : List Int} {n : Int} : (putI l n).length ≤ l.length + 1 := by
  induction l with
  | nil => simp [putI]
  | cons y l ih =>
    rw [putI]
    split
    · simp only [List.length_cons]; omega
    · split <;> simp
/-- two ascending lists with the same members are the same -/
theorem eq_of_ascI : ∀ {a b : List Int}, AscI a → AscI b → (∀ x, x ∈ a ↔ x ∈ b) → a = b
  | [], [], _, _, _ => rfl
  | [], y :: b, _, _, h => by have := (h y).2 (by simp); simp at this
  | x :: a, [], _, _, h => by have := (h x).1 (by simp); simp at this
  | x :: a, y :: b, ha, hb, h => by
    obtain ⟨ha1, ha2⟩ := List.pairwise_cons.1 ha
    obtain ⟨hb1, hb2⟩ := List.pairwise_cons.1 hb
    have e : x = y := by
      rcases List.mem_cons.1 ((h x).1 (by simp)) with e | hx
      · exact e
      · rcases List.mem_cons.1 ((h y).2 (by simp)) with e | hy
        · exact e.symm
        · have := hb1 x hx; have := ha1 y hy; omega
    subst e
    congr 1
    refine eq_of_ascI ha2 hb2 fun z => ⟨fun hz => ?_, fun hz => ?_⟩
    · rcases List.mem_cons.1 ((h z).1 (by simp [hz])) with e | h2
      · subst e; have := ha1 z hz; omega
      · exact h2
    · rcases List.mem_cons.1 ((h z).2 (by simp [hz])) with e | h2
      · subst e; have := hb1 z hz; omega
      · exact h2
theorem hasInt_c (A : Option Addr) (n c : Nat) (l : List Int) (x : Int) (w : World) (hn : n ≤ 1048576) (hr : RowI w A n l) :
    Calls Try.prog 59 #[.slice A n c, .int .i64 x] w fun e w' => e = rBool (decide (x ∈ l)) ∧ w' = w := by
  have hl := hr.len
  go_enter Try.func59, Try.ntmps59
  go_wp2_with fail
  go_loopw [9] (fun i wr => ∃ (k : Nat), k ≤ n ∧ i = .int .i64 k ∧ decide (x ∈ l) = decide (x ∈ l.drop k) ∧ wr = w) (fun i _ => n - (intOf i).toNat)
  case atStart => exact ⟨0, by omega, rfl, rfl, rfl⟩
  case round =>
    obtain ⟨k, hk, rfl, hi, rfl⟩ := hrel
    by_cases hlt : k < n
    · obtain ⟨f, g, off, hf, rfl, g0⟩ := RowI.at_ hr hlt
      have hd := drop_at hf
      have HI := Lib.hid hi
      have HD := Lib.hid hd
      clear hi hd
      by_cases hx : f = x
      · have hfin : Hid (decide (x ∈ l) = true) := by rw [Hid, HI.out, HD.out]; simp [hx]
        go_wp2_with fail
        go_ret
        exact ⟨by rw [hfin.out]; rfl, rfl⟩
      · have hnx : Hid (decide (x ∈ l) = decide (x ∈ l.drop (k + 1))) := by rw [Hid, HI.out, HD.out]; simp [Ne.symm hx]
        go_wp2_with fail
        go_roundw
        case rel => exact ⟨k + 1, by omega, by go_num, hnx.out, by first | trivial | rfl⟩
        case measure => simp [intOf]; omega
    · have hfin : Hid (decide (x ∈ l) = false) := by rw [Hid, hi, drop_end hl hlt]; simp
      go_wp2_with fail
      go_ret
      exact ⟨by rw [hfin.out]; rfl, rfl⟩
end Go.Proofs.Ytbfajhfmfdiacaa
