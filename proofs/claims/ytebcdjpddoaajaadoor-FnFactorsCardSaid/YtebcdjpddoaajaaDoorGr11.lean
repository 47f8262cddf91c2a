/- Texts of this proof, one behind the other: Data. -/
import Derived.Test.YtebcdjpddoaajaaDoorGr10
/- Lists of factors as data: valid lists, adding, removing, merging; that the program's ways and the reference's agree. No program in sight. -/
namespace Go.Proofs.YtebcdjpddoaajaaDoor
open Go.RowKit
set_option linter.unusedVariables false
set_option linter.unusedSimpArgs false

structure Bundle where
  robot : Int
  factors : List Factor
structure Chan where
  queue : List ByteArray
  base : Int
  expected : Int
  inbox : List ByteArray
  net : List Packet
  acks : List Packet
structure Robot where
  factors : List Factor
  journal : ByteArray
structure Team where
  robots : List Robot
  channels : List (List Chan)
structure PIdx where
  places : List Place
  entries : List PlaceEntry

/-- valid, the ids ascending; prev: the id before, if there is one -/
def ascL : List Factor → Option Int → Bool
  | [], _ => true
  | f :: l, prev => vldFactor f && ((match prev with | none => true | some p => decide (p < f.id)) && ascL l (some f.id))
def addNm (acc : List ByteArray) (s : ByteArray) : List ByteArray := if s.toList.isEmpty || hasStr acc s then acc else acc ++ [s]
def namesF (acc : List ByteArray) (f : Factor) : List ByteArray := addNm (addNm acc f.frm) f.to
def namesOf (l : List Factor) : List ByteArray := l.foldl namesF []
def isFL (l : List Factor) : Bool := decide (l.length ≤ 40) && (ascL l none && decide ((namesOf l).length < 10))
def below (f : Factor) (g : Factor) : Bool := decide (g.id < f.id)
def insAt (l : List Factor) (f : Factor) : Nat := (l.takeWhile (below f)).length
def insF (l : List Factor) (f : Factor) : List Factor := l.take (insAt l f) ++ (f :: l.drop (insAt l f))
def addF (l : List Factor) (f : Factor) : List Factor × Bool := if isFL l && isFL (insF l f) then (insF l f, true) else (l, false)
def removeF (l : List Factor) (id : Int) : List Factor × Bool := if isFL l && hasId l id then (l.filter (fun f => f.id != id), true) else (l, false)

theorem ascL_prev {l : List Factor} {p : Int} (h : ascL l (some p) = true) : ascL l none = true := by
  cases l with
  | nil => rfl
  | cons f l => simp only [ascL, Bool.and_eq_true, Bool.true_and] at h ⊢; exact ⟨h.1, h.2.2⟩
theorem ascL_lt : ∀ {l : List Factor} {p : Int}, ascL l (some p) = true → ∀ g ∈ l, p < g.id
  | f :: l, p, h, g, hg => by
    simp only [ascL, Bool.and_eq_true, decide_eq_true_eq] at h
    rcases List.mem_cons.1 hg with rfl | hg
    · exact h.2.1
    · have := ascL_lt h.2.2 g hg; omega
theorem ascL_append : ∀ {l m : List Factor} {p : Option Int}, ascL (l ++ m) p = true → ascL l p = true
  | [], _, _, _ => rfl
  | f :: l, m, p, h => by
    simp only [List.cons_append, ascL, Bool.and_eq_true] at h ⊢
    exact ⟨h.1, h.2.1, ascL_append h.2.2⟩
theorem insF_nil (f : Factor) : insF [] f = [f] := rfl
theorem insF_cons_lt {l : List Factor} {f g : Factor} (h : g.id < f.id) : insF (g :: l) f = g :: insF l f := by
  have : below f g = true := by simp [below, h]
  unfold insF insAt
  rw [List.takeWhile_cons_of_pos this]
  rfl
theorem insF_cons_ge {l : List Factor} {f g : Factor} (h : ¬ g.id < f.id) : insF (g :: l) f = f :: g :: l := by
  have : ¬ below f g = true := by simp [below, h]
  unfold insF insAt
  rw [List.takeWhile_cons_of_neg this]
  rfl
theorem insF_len (l : List Factor) (f : Factor) : (insF l f).length = l.length + 1 := by
  have h : insAt l f ≤ l.length := by unfold insAt; exact (List.takeWhile_prefix _).length_le
  unfold insF
  simp only [List.length_append, List.length_take, List.length_cons, List.length_drop]
  omega
/-- an id that is there already spoils the order -/
theorem ascL_ins : ∀ {l : List Factor} {f : Factor} {p : Option Int}, ascL l p = true → hasId l f.id = true → ascL (insF l f) p = false
  | [], f, p, _, h => by simp [hasId] at h
  | g :: l, f, p, ha, hh => by
    simp only [ascL, Bool.and_eq_true] at ha
    by_cases hlt : g.id < f.id
    · rw [insF_cons_lt hlt]
      have hh2 : hasId l f.id = true := by
        simp only [hasId, List.any_cons, Bool.or_eq_true] at hh
        rcases hh with h1 | h1
        · simp at h1; omega
        · exact h1
      have := ascL_ins ha.2.2 hh2
      simp [ascL, this]
    · rw [insF_cons_ge hlt]
      have hge : ¬ f.id < g.id := by
        intro hc
        simp only [hasId, List.any_cons, Bool.or_eq_true] at hh
        rcases hh with h1 | h1
        · simp at h1; omega
        · obtain ⟨y, hy, he⟩ := List.any_eq_true.1 h1
          have := ascL_lt ha.2.2 y hy
          simp at he; omega
      simp [ascL, hge]
theorem isFL_asc {l : List Factor} (h : isFL l = true) : ascL l none = true := by simp only [isFL, Bool.and_eq_true] at h; exact h.2.1
theorem isFL_len {l : List Factor} (h : isFL l = true) : l.length ≤ 40 := by simp only [isFL, Bool.and_eq_true, decide_eq_true_eq] at h; exact h.1
theorem isFL_ins {l : List Factor} {f : Factor} (h : isFL l = true) (hh : hasId l f.id = true) : isFL (insF l f) = false := by
  simp [isFL, ascL_ins (isFL_asc h) hh]
theorem addF_no {l : List Factor} {f : Factor} (h : isFL l = false) : addF l f = (l, false) := by simp [addF, h]
theorem addF_has {l : List Factor} {f : Factor} (h : isFL l = true) (hh : hasId l f.id = true) : addF l f = (l, false) := by simp [addF, isFL_ins h hh]
theorem addF_yes {l : List Factor} {f : Factor} (h : isFL l = true) (hh : isFL (insF l f) = true) : addF l f = (insF l f, true) := by simp [addF, h, hh]
theorem addF_bad {l : List Factor} {f : Factor} (hh : isFL (insF l f) = false) : addF l f = (l, false) := by simp [addF, hh]

/-! ### removing -/
theorem filter_all {l : List Factor} {id : Int} (h : hasId l id = false) : l.filter (fun f => f.id != id) = l := by
  rw [List.filter_eq_self]
  intro f hf
  have := List.any_eq_false.1 h f hf
  simpa using this
theorem filter_len {l : List Factor} {id : Int} : ((l.filter (fun f => f.id != id)).length = l.length) ↔ hasId l id = false := by
  constructor
  · intro h
    have := List.filter_eq_self.1 (List.Sublist.eq_of_length (List.filter_sublist (p := fun f : Factor => f.id != id) (l := l)) h)
    rw [hasId, List.any_eq_false]
    intro f hf
    have := this f hf
    simpa using this
  · intro h; rw [filter_all h]
theorem asc_no {l : List Factor} {p : Int} (h : ascL l (some p) = true) : hasId l p = false := by
  rw [hasId, List.any_eq_false]
  intro f hf
  have := ascL_lt h f hf
  simp; omega
theorem findId_at : ∀ {l : List Factor} {id k : Int} {p : Option Int}, ascL l p = true → hasId l id = true → ∃ i : Nat, findId l id k = k + i ∧ i < l.length ∧ l.filter (fun f => f.id != id) = l.take i ++ l.drop (i + 1)
  | [], id, k, p, _, h => by simp [hasId] at h
  | f :: l, id, k, p, ha, hh => by
    simp only [ascL, Bool.and_eq_true] at ha
    by_cases he : f.id = id
    · refine ⟨0, by simp [findId, he], by simp, ?_⟩
      have h1 : hasId l id = false := by rw [← he]; exact asc_no ha.2.2
      simp [he, filter_all h1]
    · have hh2 : hasId l id = true := by
        simp only [hasId, List.any_cons, Bool.or_eq_true] at hh
        rcases hh with h1 | h1
        · simp at h1; exact absurd h1 he
        · exact h1
      obtain ⟨i, h1, h2, h3⟩ := findId_at (k := k + 1) ha.2.2 hh2
      refine ⟨i + 1, ?_, by simpa using h2, ?_⟩
      · rw [findId, if_neg (by simpa using he), h1]; push_cast; omega
      · rw [List.filter_cons_of_pos (by simpa using he), h3]; rfl
theorem removeF_no {l : List Factor} {id : Int} (h : isFL l = false ∨ hasId l id = false) : removeF l id = (l, false) := by rcases h with h | h <;> simp [removeF, h]
theorem removeF_yes {l : List Factor} {id : Int} (h : isFL l = true) (hh : hasId l id = true) : removeF l id = (l.filter (fun f => f.id != id), true) := by simp [removeF, h, hh]

/-! ### merging -/
def mergeStep (s : List Factor × List Factor) (f : Factor) : List Factor × List Factor := if (addF s.1 f).2 then ((addF s.1 f).1, s.2 ++ [f]) else s
def mergeB (l : List Factor) (r : Int) (m : List Factor) : List Factor × List Factor := if isFL l && isBundle r m then m.foldl mergeStep (l, []) else (l, [])
def putB (r : Int) (out : List Bundle) (f : Factor) : List Bundle :=
  match out.getLast? with
  | some b => if b.factors.length < 4 then out.dropLast ++ [⟨b.robot, b.factors ++ [f]⟩] else out ++ [⟨r, [f]⟩]
  | none => [⟨r, [f]⟩]
def bunF (r : Int) (out : List Bundle) (f : Factor) : List Bundle := if robotOf f.id = r then putB r out f else out
def bundlesOf (l : List Factor) (r : Int) : List Bundle := if isFL l && inR r 0 2 then l.foldl (bunF r) [] else []

/-! ### channels and teams -/
def isChan (c : Chan) : Bool := c.queue.all (fun s => decide (s.size ≤ 300)) && (decide (c.queue.length ≤ 8) && (inR c.base 0 1000000 && (inR c.expected c.base (c.base + c.queue.length) && (decide (c.net.length ≤ 12) && decide (c.acks.length ≤ 12)))))
def isTeam (t : Team) : Bool := inR t.robots.length 1 3 && (decide (t.channels.length = t.robots.length) && ((t.robots.all fun r => isFL r.factors) && (t.channels.all fun row => decide (row.length = t.robots.length) && row.all isChan)))
def isSynced (t : Team) : Bool := isTeam t && t.robots.all fun r => match t.robots with | [] => true | r0 :: _ => sameL r.factors r0.factors
def addAll (l m : List Factor) : List Factor := m.foldl (fun l f => (addF l f).1) l
def unionOf (t : Team) : List Factor := if isTeam t then t.robots.foldl (fun l r => addAll l r.factors) [] else []

theorem namesOf_append (l m : List Factor) : namesOf (l ++ m) = m.foldl namesF (namesOf l) := by simp [namesOf, List.foldl_append]
theorem addNm_len (acc : List ByteArray) (s : ByteArray) : acc.length ≤ (addNm acc s).length := by unfold addNm; split <;> simp
theorem namesF_len (acc : List ByteArray) (f : Factor) : acc.length ≤ (namesF acc f).length := Nat.le_trans (addNm_len _ _) (addNm_len _ _)
theorem names_mono : ∀ (m : List Factor) (acc : List ByteArray), acc.length ≤ (m.foldl namesF acc).length
  | [], _ => Nat.le_refl _
  | f :: m, acc => Nat.le_trans (namesF_len acc f) (names_mono m _)
theorem isFL_prefix {l m : List Factor} (h : isFL (l ++ m) = true) : isFL l = true := by
  simp only [isFL, Bool.and_eq_true, decide_eq_true_eq, List.length_append] at h ⊢
  refine ⟨by omega, ascL_append h.2.1, ?_⟩
  have h3 := h.2.2
  rw [namesOf_append] at h3
  exact Nat.lt_of_le_of_lt (names_mono m _) h3
theorem ins_last : ∀ {l : List Factor} {f : Factor} {p : Option Int} {m : List Factor}, ascL (l ++ f :: m) p = true → insF l f = l ++ [f]
  | [], _, _, _, _ => rfl
  | g :: l, f, p, m, h => by
    simp only [List.cons_append, ascL, Bool.and_eq_true] at h
    have hlt : g.id < f.id := ascL_lt h.2.2 f (by simp)
    rw [insF_cons_lt hlt, ins_last h.2.2]
    rfl
theorem addAll_self : ∀ (m l : List Factor), isFL (l ++ m) = true → addAll l m = l ++ m
  | [], l, _ => by simp [addAll]
  | f :: m, l, h => by
    have hi := ins_last (isFL_asc h)
    have h1 : isFL (l ++ [f]) = true := isFL_prefix (m := m) (by simpa using h)
    have h2 : addF l f = (l ++ [f], true) := by rw [addF_yes (isFL_prefix h) (by rw [hi]; exact h1), hi]
    have := addAll_self m (l ++ [f]) (by simpa using h)
    unfold addAll at this ⊢
    rw [List.foldl_cons, h2]
    simpa using this
theorem addAll_nil {m : List Factor} (h : isFL m = true) : addAll [] m = m := by simpa using addAll_self m [] (by simpa using h)
/-- the program begins with the first robot's list, the reference with none -/
theorem unionOf_cons {t : Team} {r : Robot} {rs : List Robot} (h : isTeam t = true) (hr : t.robots = r :: rs) : unionOf t = rs.foldl (fun l r => addAll l r.factors) r.factors := by
  have h1 : isFL r.factors = true := by
    simp only [isTeam, Bool.and_eq_true, hr, List.all_cons] at h
    exact h.2.2.1.1
  simp [unionOf, h, hr, addAll_nil h1]
end Go.Proofs.YtebcdjpddoaajaaDoor
