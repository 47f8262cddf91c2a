/- Texts of this proof, one behind the other: Bundle, Data, OnceP. -/
import Derived.Deep.RegionHeld3
import Derived.Lib.QuietBelow
import Derived.BigQuiet
import Derived.Test.YtdfemnffpaopfaaGreatDoorGrr2
import Derived.Test.YtdfemnffpaopfaaGreatDoorGrr3
/- RobotOf, IsValidBundle: what the two of each answer. -/
namespace Go.Proofs.YtdfemnffpaopfaaGreatDoor
open Go.RowKit
set_option linter.unusedVariables false
set_option linter.unusedSimpArgs false
set_option maxHeartbeats 800000
set_option maxRecDepth 100000
abbrev vBundle (r : Int) (A : Option Addr) (n c : Nat) : Value := .agg #[.int .i64 r, .slice A n c]
def robotOf (id : Int) : Int := if inR id 0 2999 then id / 1000 else -1
/-- valid, each of the robot r, the ids ascending; prev: the id before, if there is one -/
def bunL (r : Int) : List Factor → Option Int → Bool
  | [], _ => true
  | f :: l, prev => vldFactor f && ((robotOf f.id == r) && ((match prev with | none => true | some p => decide (p < f.id)) && bunL r l (some f.id)))
def isBundle (r : Int) (l : List Factor) : Bool := inR r 0 2 && (inR l.length 1 4 && bunL r l none)
def prevId (l : List Factor) (k : Nat) : Option Int := if k = 0 then none else (l[k - 1]?).map (·.id)
def BunInv (r : Int) (l : List Factor) (k : Nat) : Prop := bunL r l none = bunL r (l.drop k) (prevId l k)
theorem prevId_succ {l : List Factor} {k : Nat} {f : Factor} (hf : Hid (l[k]? = some f)) : prevId l (k + 1) = some f.id := by
  have h : l[k]? = some f := hf
  simp [prevId, h]
theorem BunInv.step {r : Int} {l : List Factor} {k : Nat} {f : Factor} (h : BunInv r l k) (hf : Hid (l[k]? = some f)) :
    bunL r l none = (vldFactor f && ((robotOf f.id == r) && ((match prevId l k with | none => true | some p => decide (p < f.id)) && bunL r (l.drop (k + 1)) (prevId l (k + 1))))) := by
  unfold BunInv at h
  rw [h, drop_at hf, prevId_succ hf]
  rfl
theorem BunInv.done {r : Int} {l : List Factor} {k n : Nat} (h : BunInv r l k) (hl : Hid (l.length = n)) (hk : ¬ k < n) : Hid (bunL r l none = true) := by
  unfold BunInv at h; rw [Hid, h, drop_end hl hk]; rfl
/-- the way of a round: bv valid, br the robot's, bp above the one before -/
theorem BunInv.no {r : Int} {l : List Factor} {X Y Z b : Bool} (h : Hid (bunL r l none = (X && (Y && (Z && b))))) (hx : X = false ∨ Y = false ∨ Z = false) : Hid (isBundle r l = false) := by
  rw [Hid, isBundle, h.out]
  rcases hx with rfl | rfl | rfl <;> simp
end Go.Proofs.YtdfemnffpaopfaaGreatDoor


/- Lists of factors as data: valid lists, adding, removing, merging; that the program's ways and the reference's agree. No program in sight. -/
namespace Go.Proofs.YtdfemnffpaopfaaGreatDoor
open Go.RowKit
set_option linter.unusedVariables false
set_option linter.unusedSimpArgs false

structure Bundle where
  robot : Int
  factors : List Factor
structure Chan where
  queue : List ByteArray
  base : Int
  expected : Int
  inbox : List ByteArray
  net : List Packet
  acks : List Packet
structure Robot where
  factors : List Factor
  journal : ByteArray
structure Team where
  robots : List Robot
  channels : List (List Chan)
structure PIdx where
  places : List Place
  entries : List PlaceEntry

/-- valid, the ids ascending; prev: the id before, if there is one -/
def ascL : List Factor → Option Int → Bool
  | [], _ => true
  | f :: l, prev => vldFactor f && ((match prev with | none => true | some p => decide (p < f.id)) && ascL l (some f.id))
def addNm (acc : List ByteArray) (s : ByteArray) : List ByteArray := if s.toList.isEmpty || hasStr acc s then acc else acc ++ [s]
def namesF (acc : List ByteArray) (f : Factor) : List ByteArray := addNm (addNm acc f.frm) f.to
def namesOf (l : List Factor) : List ByteArray := l.foldl namesF []
def isFL (l : List Factor) : Bool := decide (l.length ≤ 40) && (ascL l none && decide ((namesOf l).length < 10))
def below (f : Factor) (g : Factor) : Bool := decide (g.id < f.id)
def insAt (l : List Factor) (f : Factor) : Nat := (l.takeWhile (below f)).length
def insF (l : List Factor) (f : Factor) : List Factor := l.take (insAt l f) ++ (f :: l.drop (insAt l f))
def addF (l : List Factor) (f : Factor) : List Factor × Bool := if isFL l && isFL (insF l f) then (insF l f, true) else (l, false)
def removeF (l : List Factor) (id : Int) : List Factor × Bool := if isFL l && hasId l id then (l.filter (fun f => f.id != id), true) else (l, false)

theorem ascL_lt : ∀ {l : List Factor} {p : Int}, ascL l (some p) = true → ∀ g ∈ l, p < g.id
  | f :: l, p, h, g, hg => by
    simp only [ascL, Bool.and_eq_true, decide_eq_true_eq] at h
    rcases List.mem_cons.1 hg with rfl | hg
    · exact h.2.1
    · have := ascL_lt h.2.2 g hg; omega
theorem insF_cons_lt {l : List Factor} {f g : Factor} (h : g.id < f.id) : insF (g :: l) f = g :: insF l f := by
  have : below f g = true := by simp [below, h]
  unfold insF insAt
  rw [List.takeWhile_cons_of_pos this]
  rfl
theorem insF_cons_ge {l : List Factor} {f g : Factor} (h : ¬ g.id < f.id) : insF (g :: l) f = f :: g :: l := by
  have : ¬ below f g = true := by simp [below, h]
  unfold insF insAt
  rw [List.takeWhile_cons_of_neg this]
  rfl
/-- an id that is there already spoils the order -/
theorem ascL_ins : ∀ {l : List Factor} {f : Factor} {p : Option Int}, ascL l p = true → hasId l f.id = true → ascL (insF l f) p = false
  | [], f, p, _, h => by simp [hasId] at h
  | g :: l, f, p, ha, hh => by
    simp only [ascL, Bool.and_eq_true] at ha
    by_cases hlt : g.id < f.id
    · rw [insF_cons_lt hlt]
      have hh2 : hasId l f.id = true := by
        simp only [hasId, List.any_cons, Bool.or_eq_true] at hh
        rcases hh with h1 | h1
        · simp at h1; omega
        · exact h1
      have := ascL_ins ha.2.2 hh2
      simp [ascL, this]
    · rw [insF_cons_ge hlt]
      have hge : ¬ f.id < g.id := by
        intro hc
        simp only [hasId, List.any_cons, Bool.or_eq_true] at hh
        rcases hh with h1 | h1
        · simp at h1; omega
        · obtain ⟨y, hy, he⟩ := List.any_eq_true.1 h1
          have := ascL_lt ha.2.2 y hy
          simp at he; omega
      simp [ascL, hge]
theorem isFL_asc {l : List Factor} (h : isFL l = true) : ascL l none = true := by simp only [isFL, Bool.and_eq_true] at h; exact h.2.1
theorem isFL_len {l : List Factor} (h : isFL l = true) : l.length ≤ 40 := by simp only [isFL, Bool.and_eq_true, decide_eq_true_eq] at h; exact h.1
theorem isFL_ins {l : List Factor} {f : Factor} (h : isFL l = true) (hh : hasId l f.id = true) : isFL (insF l f) = false := by
  simp [isFL, ascL_ins (isFL_asc h) hh]
theorem addF_no {l : List Factor} {f : Factor} (h : isFL l = false) : addF l f = (l, false) := by simp [addF, h]
theorem addF_has {l : List Factor} {f : Factor} (h : isFL l = true) (hh : hasId l f.id = true) : addF l f = (l, false) := by simp [addF, isFL_ins h hh]
theorem addF_yes {l : List Factor} {f : Factor} (h : isFL l = true) (hh : isFL (insF l f) = true) : addF l f = (insF l f, true) := by simp [addF, h, hh]
theorem addF_bad {l : List Factor} {f : Factor} (hh : isFL (insF l f) = false) : addF l f = (l, false) := by simp [addF, hh]

/-! ### removing -/
/-! ### merging -/
def mergeStep (s : List Factor × List Factor) (f : Factor) : List Factor × List Factor := if (addF s.1 f).2 then ((addF s.1 f).1, s.2 ++ [f]) else s
def mergeB (l : List Factor) (r : Int) (m : List Factor) : List Factor × List Factor := if isFL l && isBundle r m then m.foldl mergeStep (l, []) else (l, [])
def putB (r : Int) (out : List Bundle) (f : Factor) : List Bundle :=
  match out.getLast? with
  | some b => if b.factors.length < 4 then out.dropLast ++ [⟨b.robot, b.factors ++ [f]⟩] else out ++ [⟨r, [f]⟩]
  | none => [⟨r, [f]⟩]
def bunF (r : Int) (out : List Bundle) (f : Factor) : List Bundle := if robotOf f.id = r then putB r out f else out
def bundlesOf (l : List Factor) (r : Int) : List Bundle := if isFL l && inR r 0 2 then l.foldl (bunF r) [] else []

/-! ### channels and teams -/
def isChan (c : Chan) : Bool := c.queue.all (fun s => decide (s.size ≤ 300)) && (decide (c.queue.length ≤ 8) && (inR c.base 0 1000000 && (inR c.expected c.base (c.base + c.queue.length) && (decide (c.net.length ≤ 12) && decide (c.acks.length ≤ 12)))))
def isTeam (t : Team) : Bool := inR t.robots.length 1 3 && (decide (t.channels.length = t.robots.length) && ((t.robots.all fun r => isFL r.factors) && (t.channels.all fun row => decide (row.length = t.robots.length) && row.all isChan)))
def isSynced (t : Team) : Bool := isTeam t && t.robots.all fun r => match t.robots with | [] => true | r0 :: _ => sameL r.factors r0.factors
def addAll (l m : List Factor) : List Factor := m.foldl (fun l f => (addF l f).1) l
def unionOf (t : Team) : List Factor := if isTeam t then t.robots.foldl (fun l r => addAll l r.factors) [] else []

end Go.Proofs.YtdfemnffpaopfaaGreatDoor


/- What a bundle that is merged twice adds: the plain law. No program in sight. -/
namespace Go.Proofs.YtdfemnffpaopfaaGreatDoor
open Go.RowKit
set_option linter.unusedVariables false
set_option linter.unusedSimpArgs false

theorem nodup_sub {α : Type} [DecidableEq α] : ∀ {a b : List α}, a.Nodup → (∀ x ∈ a, x ∈ b) → a.length ≤ b.length
  | [], _, _, _ => Nat.zero_le _
  | x :: a, b, hn, hs => by
    have hx : x ∈ b := hs x (by simp)
    have hn' := List.nodup_cons.1 hn
    have h1 := nodup_sub (a := a) (b := b.erase x) hn'.2 (fun y hy => (List.mem_erase_of_ne (fun e : y = x => hn'.1 (by rw [← e]; exact hy))).2 (hs y (by simp [hy])))
    rw [List.length_erase_of_mem hx] at h1
    have h2 := List.length_pos_of_mem hx
    simp only [List.length_cons]; omega
def keys (acc : List ByteArray) : List (List UInt8) := acc.map ByteArray.toList
theorem keys_has (acc : List ByteArray) (s : ByteArray) : hasStr acc s = true ↔ s.toList ∈ keys acc := by
  unfold hasStr keys
  simp only [List.any_eq_true, beq_iff_eq, List.mem_map]
theorem keys_add (acc : List ByteArray) (s : ByteArray) (hn : (keys acc).Nodup) : (keys (addNm acc s)).Nodup ∧ ∀ k, k ∈ keys (addNm acc s) ↔ (k ∈ keys acc ∨ (k ≠ [] ∧ k = s.toList)) := by
  unfold addNm
  split
  · rename_i h
    refine ⟨hn, fun k => ⟨.inl, fun hk => ?_⟩⟩
    rcases hk with hk | ⟨h1, rfl⟩
    · exact hk
    · simp only [Bool.or_eq_true, List.isEmpty_iff] at h
      rcases h with h | h
      · exact absurd h h1
      · exact (keys_has acc s).1 h
  · rename_i h
    simp only [Bool.or_eq_true, List.isEmpty_iff, not_or] at h
    have hs : s.toList ∉ keys acc := fun hm => h.2 ((keys_has acc s).2 hm)
    have e : keys (acc ++ [s]) = keys acc ++ [s.toList] := by simp [keys]
    rw [e]
    refine ⟨List.nodup_append.2 ⟨hn, by simp, fun a ha b hb => by simp at hb; subst hb; exact fun e => hs (e ▸ ha)⟩, fun k => ?_⟩
    simp only [List.mem_append, List.mem_singleton]
    constructor
    · rintro (hk | rfl)
      · exact .inl hk
      · exact .inr ⟨h.1, rfl⟩
    · rintro (hk | ⟨_, rfl⟩)
      · exact .inl hk
      · exact .inr rfl
theorem keys_names : ∀ (l : List Factor) (acc : List ByteArray), (keys acc).Nodup → (keys (l.foldl namesF acc)).Nodup ∧ ∀ k, k ∈ keys (l.foldl namesF acc) ↔ (k ∈ keys acc ∨ (k ≠ [] ∧ ∃ f ∈ l, k = f.frm.toList ∨ k = f.to.toList))
  | [], acc, hn => ⟨hn, fun k => by simp⟩
  | f :: l, acc, hn => by
    have h1 := keys_add acc f.frm hn
    have h2 := keys_add (addNm acc f.frm) f.to h1.1
    have h3 := keys_names l (namesF acc f) h2.1
    refine ⟨h3.1, fun k => ?_⟩
    rw [List.foldl_cons, h3.2]
    unfold namesF
    rw [h2.2, h1.2]
    simp only [List.mem_cons, exists_eq_or_imp]
    constructor
    · rintro (((h | ⟨h, h'⟩) | ⟨h, h'⟩) | ⟨h, h'⟩)
      · exact .inl h
      · exact .inr ⟨h, .inl (.inl h')⟩
      · exact .inr ⟨h, .inl (.inr h')⟩
      · exact .inr ⟨h, .inr h'⟩
    · rintro (h | ⟨h, (h' | h') | h'⟩)
      · exact .inl (.inl (.inl h))
      · exact .inl (.inl (.inr ⟨h, h'⟩))
      · exact .inl (.inr ⟨h, h'⟩)
      · exact .inr ⟨h, h'⟩
theorem names_keys (l : List Factor) : (keys (namesOf l)).Nodup ∧ ∀ k, k ∈ keys (namesOf l) ↔ (k ≠ [] ∧ ∃ f ∈ l, k = f.frm.toList ∨ k = f.to.toList) := by
  have h := keys_names l [] (by simp [keys])
  refine ⟨h.1, fun k => ?_⟩
  unfold namesOf
  rw [h.2]
  simp [keys]
theorem keys_len (acc : List ByteArray) : (keys acc).length = acc.length := by simp [keys]
/-- names out of a set -/
theorem names_in {l : List Factor} {S : List (List UInt8)} (h : ∀ f ∈ l, (f.frm.toList = [] ∨ f.frm.toList ∈ S) ∧ (f.to.toList = [] ∨ f.to.toList ∈ S)) : (namesOf l).length ≤ S.length := by
  rw [← keys_len]
  refine nodup_sub (names_keys l).1 fun k hk => ?_
  obtain ⟨h0, f, hf, hk⟩ := ((names_keys l).2 k).1 hk
  rcases hk with rfl | rfl
  · exact (h f hf).1.resolve_left h0
  · exact (h f hf).2.resolve_left h0
def after (p : Option Int) (x : Int) : Bool := match p with | none => true | some q => decide (q < x)
/-- what a row of additions leaves -/
structure MgOut (l0 l : List Factor) (a : List Factor) (fs : List Factor) (out : List Factor × List Factor) : Prop where
  fl : isFL out.1 = true
  sub : ∀ g ∈ l, g ∈ out.1
  len : out.1.length + a.length = l.length + out.2.length
  le : l.length ≤ out.1.length
  rej : ∀ f ∈ fs, (addF out.1 f).2 = false
  mis : (missing l0 out.1).length + a.length = (missing l0 l).length + out.2.length
end Go.Proofs.YtdfemnffpaopfaaGreatDoor

