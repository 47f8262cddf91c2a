/- Lists of factors, places, strings: SameFactors, MissingIds, IsPlaceList, IsValidBundle, IsChannel: what the two of each answer. -/
import Derived.Test.YtbfajhfmfdiacaaDoorValid
import Derived.Test.YtbfajhfmfdiacaaDoorOwn
import Derived.Test.YtbfajhfmfdiacaaDoorEq
namespace Go.Proofs.YtbfajhfmfdiacaaDoor
open Go.RowKit
set_option linter.unusedVariables false
set_option linter.unusedSimpArgs false
set_option maxHeartbeats 400000
set_option maxRecDepth 100000

def Factor.same (f g : Factor) : Bool := (f.id == g.id) && ((f.kind == g.kind) && ((f.frm.toList == g.frm.toList) && ((f.to.toList == g.to.toList) && ((f.pose.turn == g.pose.turn) && ((f.pose.x == g.pose.x) && ((f.pose.y == g.pose.y) && (f.weight == g.weight)))))))
theorem run_neq_Factor (w : World) (f g : Factor) :
    (binOp .neq 57 (vFactor f.id f.kind f.frm f.to f.pose.turn f.pose.x f.pose.y f.weight) (vFactor g.id g.kind g.frm g.to g.pose.turn g.pose.x g.pose.y g.weight)).run Tryd.prog w = .ok (.bool (!(f.same g))) w := by
  simp [go_sem]
  unfold Factor.same
  repeat' split
  all_goals simp_all
def sameL : List Factor → List Factor → Bool
  | [], [] => true
  | f :: l, g :: m => f.same g && sameL l m
  | _, _ => false
def SameInv (l m : List Factor) (k : Nat) : Prop := sameL l m = sameL (l.drop k) (m.drop k)
theorem sameL_len : ∀ (l m : List Factor), l.length ≠ m.length → sameL l m = false
  | [], [], h => absurd rfl h
  | [], _ :: _, _ => rfl
  | _ :: _, [], _ => rfl
  | f :: l, g :: m, h => by rw [sameL, sameL_len l m (by simpa using h), Bool.and_false]
theorem SameInv.step {l m : List Factor} {k : Nat} {f g : Factor} (h : SameInv l m k) (hf : Hid (l[k]? = some f)) (hg : Hid (m[k]? = some g)) : sameL l m = (f.same g && sameL (l.drop (k + 1)) (m.drop (k + 1))) := by
  unfold SameInv at h
  rw [h, drop_at hf, drop_at hg, sameL]
theorem SameInv.done {l m : List Factor} {k n : Nat} (h : SameInv l m k) (hl : Hid (l.length = n)) (hm : Hid (m.length = n)) (hk : ¬ k < n) : Hid (sameL l m = true) := by
  unfold SameInv at h
  rw [Hid, h, drop_end hl hk, drop_end hm hk, sameL]

/-! ### is it there -/
def hasId (l : List Factor) (id : Int) : Bool := l.any fun f => f.id == id
def findId : List Factor → Int → Int → Int
  | [], _, _ => -1
  | f :: l, id, k => if f.id == id then k else findId l id (k + 1)
def hasStr (l : List ByteArray) (s : ByteArray) : Bool := l.any fun t => t.toList == s.toList
def HasInv (l : List Factor) (id : Int) (k : Nat) : Prop := hasId l id = hasId (l.drop k) id
theorem HasInv.step {l : List Factor} {id : Int} {k : Nat} {f : Factor} (h : HasInv l id k) (hf : Hid (l[k]? = some f)) : hasId l id = ((f.id == id) || hasId (l.drop (k + 1)) id) := by
  unfold HasInv at h; rw [h, drop_at hf]; rfl
theorem HasInv.done {l : List Factor} {id : Int} {k n : Nat} (h : HasInv l id k) (hl : Hid (l.length = n)) (hk : ¬ k < n) : Hid (hasId l id = false) := by
  unfold HasInv at h; rw [Hid, h, drop_end hl hk]; rfl
def FindInv (l : List Factor) (id : Int) (k : Nat) : Prop := findId l id 0 = findId (l.drop k) id k
theorem FindInv.step {l : List Factor} {id : Int} {k : Nat} {f : Factor} (h : FindInv l id k) (hf : Hid (l[k]? = some f)) : findId l id 0 = if f.id == id then (k : Int) else findId (l.drop (k + 1)) id ((k + 1 : Nat) : Int) := by
  unfold FindInv at h; rw [h, drop_at hf, findId]; congr 2
theorem FindInv.done {l : List Factor} {id : Int} {k n : Nat} (h : FindInv l id k) (hl : Hid (l.length = n)) (hk : ¬ k < n) : Hid (findId l id 0 = -1) := by
  unfold FindInv at h; rw [Hid, h, drop_end hl hk]; rfl
theorem findId_neg : ∀ (l : List Factor) (id k : Int), 0 ≤ k → decide (findId l id k < 0) = !hasId l id
  | [], id, k, _ => by simp [findId, hasId]
  | f :: l, id, k, h => by
    have ih := findId_neg l id (k + 1) (by omega)
    unfold hasId at ih ⊢
    rw [findId, List.any_cons]
    by_cases he : (f.id == id) = true
    · rw [if_pos he, he]; simp; omega
    · rw [if_neg he, ih]; simp [he]
theorem findId_lo : ∀ (l : List Factor) (id k : Int), 0 ≤ k → -1 ≤ findId l id k ∧ findId l id k ≤ k + l.length
  | [], id, k, h => by simp [findId]; omega
  | f :: l, id, k, h => by
    have ih := findId_lo l id (k + 1) (by omega)
    rw [findId]
    split
    · simp; omega
    · simp only [List.length_cons]; omega
def StrInv (l : List ByteArray) (s : ByteArray) (k : Nat) : Prop := hasStr l s = hasStr (l.drop k) s
theorem StrInv.step {l : List ByteArray} {s f : ByteArray} {k : Nat} (h : StrInv l s k) (hf : Hid (l[k]? = some f)) : hasStr l s = ((f.toList == s.toList) || hasStr (l.drop (k + 1)) s) := by
  unfold StrInv at h; rw [h, drop_at hf]; rfl
theorem StrInv.done {l : List ByteArray} {s : ByteArray} {k n : Nat} (h : StrInv l s k) (hl : Hid (l.length = n)) (hk : ¬ k < n) : Hid (hasStr l s = false) := by
  unfold StrInv at h; rw [Hid, h, drop_end hl hk]; rfl

/-! ### the ids that are missing -/
def missing (l m : List Factor) : List Int := (m.filter fun f => !hasId l f.id).map (·.id)
def MissInv (l m : List Factor) (k : Nat) (L : List Int) : Prop := missing l m = L ++ missing l (m.drop k)
theorem MissInv.start (l m : List Factor) : MissInv l m 0 [] := rfl
theorem MissInv.step {l m : List Factor} {k : Nat} {L : List Int} {f : Factor} (h : MissInv l m k L) (hf : Hid (m[k]? = some f)) : MissInv l m (k + 1) (if hasId l f.id then L else L ++ [f.id]) := by
  unfold MissInv at *
  rw [h, drop_at hf]
  unfold missing
  by_cases hx : hasId l f.id = true
  · simp [hx]
  · simp [hx]
theorem MissInv.done {l m : List Factor} {k n : Nat} {L : List Int} (h : MissInv l m k L) (hl : Hid (m.length = n)) (hk : ¬ k < n) : Hid (missing l m = L) := by
  unfold MissInv at h; rw [Hid, h, drop_end hl hk]; simp [missing]
theorem info_Int : (Tryd.prog.info? 3).map (fun i => (i.zero, i.size, i.bytes)) = some (some (.int .i64 0), 1, 8) := by kernel_rfl
/-- the call answers a new slice that reads as L -/
def IntsPost (w : World) (e : Ending) (w' : World) (L : List Int) (t : TypeId) : Prop := ∃ A n c, e = .returned (.slice A n c) ∧ Own w' w.heap.size t 1 A n c (L.map intCells) ∧ Below w.heap.size w w' ∧ n ≤ 1048576
end Go.Proofs.YtbfajhfmfdiacaaDoor
