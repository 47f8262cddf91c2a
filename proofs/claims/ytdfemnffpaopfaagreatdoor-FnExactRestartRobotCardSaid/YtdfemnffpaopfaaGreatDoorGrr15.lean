/- Texts of this proof, one behind the other: Draw7, FctP, BdlP, TmP. -/
import Derived.Test.YtdfemnffpaopfaaGreatDoorGrr4
import Derived.Test.YtdfemnffpaopfaaGreatDoorGrr11
import Derived.Test.YtdfemnffpaopfaaGreatDoorGrr14
import Derived.Test.YtdfemnffpaopfaaGreatDoorGrr17
/- The draws of a shared list: l28List, MakeShared; of a robot's list: MakeFactors; of one factor: MakeFactor. -/
namespace Go.Proofs.YtdfemnffpaopfaaGreatDoor
open Go.RowKit
set_option linter.unusedVariables false
set_option linter.unusedSimpArgs false
set_option maxHeartbeats 1000000
set_option maxRecDepth 100000
def nm7 : List (List UInt8) := [(pnm 0).toList, (pnm 1).toList, (pnm 2).toList, (pnm 3).toList, (pnm 4).toList, (mnm 0).toList, (mnm 1).toList]
theorem nmOK.in7 {s : ByteArray} (h : nmOK s) : s.toList = [] ∨ s.toList ∈ nm7 := by
  rcases h with rfl | ⟨j, hj, rfl⟩ | ⟨j, hj, rfl⟩
  · exact .inl (by decide +kernel)
  · right
    match j, hj with
    | 0, _ | 1, _ | 2, _ | 3, _ | 4, _ => simp [nm7]
    | j + 5, hj => omega
  · right
    match j, hj with
    | 0, _ | 1, _ => simp [nm7]
    | j + 2, hj => omega
theorem FOK.names {l : List Factor} (h : ∀ f ∈ l, FOK f) : (namesOf l).length ≤ 7 := names_in (S := nm7) fun f hf => ⟨(h f hf).2.1.in7, (h f hf).2.2.in7⟩
/-- the state of l28List behind i rounds -/
structure SInv (r : Int) (i : Nat) (l : List Factor) : Prop where
  len : l.length = i
  fok : ∀ f ∈ l, FOK f
  lt : ∀ f ∈ l, f.id < 1000 * r + i
  asc : ascL l none = true
theorem SInv.fl {r : Int} {i : Nat} {l : List Factor} (h : SInv r i l) (hi : i ≤ 40) : isFL l = true := by
  unfold isFL
  have h1 := FOK.names h.fok
  simp only [Bool.and_eq_true, decide_eq_true_eq]
  exact ⟨by rw [h.len]; exact hi, h.asc, by omega⟩
end Go.Proofs.YtdfemnffpaopfaaGreatDoor


/- Factors: one more factor behind a robot's list, and out again. Plain. -/
namespace Go.Proofs.YtdfemnffpaopfaaGreatDoor
open Go.RowKit
set_option linter.unusedVariables false
set_option linter.unusedSimpArgs false
set_option maxRecDepth 100000
theorem GOK.ids {l : List Factor} (h : GOK l) (h8 : l.length ≤ 8) : ∀ g ∈ l, g.id < 77 := by
  intro g hg
  obtain ⟨i, hi⟩ := List.getElem?_of_mem hg
  have := h.2.2 i g hi
  have := (List.getElem?_eq_some_iff.1 hi).1
  omega
theorem ascL_ids : ∀ (l : List Factor) (i : Int) (p : Option Int), (∀ f ∈ l, vldFactor f = true) → (∀ (k : Nat) (f : Factor), l[k]? = some f → f.id = i + (k : Int)) → (∀ q, p = some q → q < i) → ascL l p = true
  | [], _, _, _, _, _ => rfl
  | f :: l, i, p, hv, hi, hp => by
    have h0 := hi 0 f rfl
    have ih := ascL_ids l (i + 1) (some f.id) (fun g hg => hv g (by simp [hg])) (fun k g hg => by
      have := hi (k + 1) g (by simpa using hg)
      push_cast at this
      omega) (fun q hq => by
      injection hq with hq
      omega)
    cases p with
    | none => simp only [ascL, hv f (by simp), ih, Bool.and_true]
    | some q =>
      have := hp q rfl
      have hd : decide (q < f.id) = true := decide_eq_true (by omega)
      simp only [ascL, hv f (by simp), ih, hd, Bool.and_true]
theorem GOK.fl {l : List Factor} (h : GOK l) (h8 : l.length ≤ 8) : isFL l = true := by
  unfold isFL
  have h1 := FOK.names h.2.1
  have h2 := ascL_ids l 1 none (fun f hf => (h.2.1 f hf).1) (fun k f hf => by have := h.2.2 k f hf; omega) (by simp)
  simp only [Bool.and_eq_true, decide_eq_true_eq]
  exact ⟨by omega, h2, by omega⟩
end Go.Proofs.YtdfemnffpaopfaaGreatDoor


/- The bundles of all robots hold all factors: merged one behind the other they give the list. Plain. -/
namespace Go.Proofs.YtdfemnffpaopfaaGreatDoor
open Go.RowKit
set_option linter.unusedVariables false
set_option linter.unusedSimpArgs false
set_option maxRecDepth 100000
def rob (r : Int) (l : List Factor) : List Factor := l.filter fun f => robotOf f.id == r
/-- the bundles so far, of the factors D -/
def BdInv (r : Int) (D : List Factor) (bs : List Bundle) : Prop := bs.flatMap (·.factors) = rob r D ∧ ∀ b ∈ bs, b.robot = r ∧ 1 ≤ b.factors.length ∧ b.factors.length ≤ 4
theorem BdInv.step {r : Int} {D : List Factor} {bs : List Bundle} (h : BdInv r D bs) (f : Factor) : BdInv r (D ++ [f]) (bunF r bs f) := by
  obtain ⟨h1, h2⟩ := h
  unfold bunF
  by_cases hr : robotOf f.id = r
  · have hf : rob r (D ++ [f]) = rob r D ++ [f] := by unfold rob; rw [List.filter_append]; simp [hr]
    rw [if_pos hr]
    unfold putB
    cases hl : bs.getLast? with
    | none =>
      have hb : bs = [] := List.getLast?_eq_none_iff.1 hl
      subst hb
      refine ⟨by rw [hf, ← h1]; rfl, fun b hb => ?_⟩
      simp only [List.mem_singleton] at hb
      subst hb; exact ⟨rfl, Nat.le_refl _, by show 1 ≤ 4; omega⟩
    | some b =>
      have hbm : b ∈ bs := List.mem_of_getLast? hl
      have hne : bs ≠ [] := by intro e; rw [e] at hbm; simp at hbm
      have hlast : bs.getLast hne = b := by rw [List.getLast?_eq_some_getLast hne] at hl; exact Option.some.inj hl
      have hsp : bs = bs.dropLast ++ [b] := by rw [← hlast]; exact (List.dropLast_concat_getLast hne).symm
      simp only
      split
      · rename_i h4
        refine ⟨?_, fun c hc => ?_⟩
        · rw [hf, ← h1]
          conv => rhs; rw [hsp]
          simp [List.flatMap_append]
        · rcases List.mem_append.1 hc with hc | hc
          · exact h2 c (List.dropLast_subset _ hc)
          · simp only [List.mem_singleton] at hc
            subst hc
            have := h2 b hbm
            exact ⟨this.1, by simp, by simp; omega⟩
      · refine ⟨by rw [hf, ← h1]; simp [List.flatMap_append], fun c hc => ?_⟩
        rcases List.mem_append.1 hc with hc | hc
        · exact h2 c hc
        · simp only [List.mem_singleton] at hc
          subst hc; exact ⟨rfl, Nat.le_refl _, by show 1 ≤ 4; omega⟩
  · rw [if_neg hr]
    refine ⟨?_, h2⟩
    rw [h1]; unfold rob; rw [List.filter_append]; simp [hr]
end Go.Proofs.YtdfemnffpaopfaaGreatDoor


/- Merging a bundle: the factors that were added, in order, are those of the merged list that the list had not. Plain (for the team's receive against l30Collect). -/
namespace Go.Proofs.YtdfemnffpaopfaaGreatDoor
open Go.RowKit
set_option linter.unusedVariables false
set_option linter.unusedSimpArgs false
set_option maxRecDepth 100000
def fresh_ (l L : List Factor) : List Factor := L.filter fun g => !hasId l g.id
end Go.Proofs.YtdfemnffpaopfaaGreatDoor

