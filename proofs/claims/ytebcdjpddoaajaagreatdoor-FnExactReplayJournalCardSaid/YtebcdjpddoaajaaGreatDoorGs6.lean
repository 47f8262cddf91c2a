/- Texts of this proof, one behind the other: Lists. -/
import Derived.Test.YtebcdjpddoaajaaGreatDoorGs1
import Derived.Test.YtebcdjpddoaajaaGreatDoorGs5
/- Lists of factors, places, strings: SameFactors, MissingIds, IsPlaceList, IsValidBundle, IsChannel: what the two of each answer. -/
namespace Go.Proofs.YtebcdjpddoaajaaGreatDoor
open Go.RowKit
set_option linter.unusedVariables false
set_option linter.unusedSimpArgs false
set_option maxHeartbeats 400000
set_option maxRecDepth 100000

def Factor.same (f g : Factor) : Bool := (f.id == g.id) && ((f.kind == g.kind) && ((f.frm.toList == g.frm.toList) && ((f.to.toList == g.to.toList) && ((f.pose.turn == g.pose.turn) && ((f.pose.x == g.pose.x) && ((f.pose.y == g.pose.y) && (f.weight == g.weight)))))))
theorem run_neq_Factor (w : World) (f g : Factor) :
    (binOp .neq 38 (vFactor f.id f.kind f.frm f.to f.pose.turn f.pose.x f.pose.y f.weight) (vFactor g.id g.kind g.frm g.to g.pose.turn g.pose.x g.pose.y g.weight)).run Tryz.prog w = .ok (.bool (!(f.same g))) w := by
  simp [go_sem]
  unfold Factor.same
  repeat' split
  all_goals simp_all
def sameL : List Factor → List Factor → Bool
  | [], [] => true
  | f :: l, g :: m => f.same g && sameL l m
  | _, _ => false
def SameInv (l m : List Factor) (k : Nat) : Prop := sameL l m = sameL (l.drop k) (m.drop k)
theorem sameL_len : ∀ (l m : List Factor), l.length ≠ m.length → sameL l m = false
  | [], [], h => absurd rfl h
  | [], _ :: _, _ => rfl
  | _ :: _, [], _ => rfl
  | f :: l, g :: m, h => by rw [sameL, sameL_len l m (by simpa using h), Bool.and_false]
theorem SameInv.step {l m : List Factor} {k : Nat} {f g : Factor} (h : SameInv l m k) (hf : Hid (l[k]? = some f)) (hg : Hid (m[k]? = some g)) : sameL l m = (f.same g && sameL (l.drop (k + 1)) (m.drop (k + 1))) := by
  unfold SameInv at h
  rw [h, drop_at hf, drop_at hg, sameL]
theorem SameInv.done {l m : List Factor} {k n : Nat} (h : SameInv l m k) (hl : Hid (l.length = n)) (hm : Hid (m.length = n)) (hk : ¬ k < n) : Hid (sameL l m = true) := by
  unfold SameInv at h
  rw [Hid, h, drop_end hl hk, drop_end hm hk, sameL]
theorem impl_SameFactors_c (A A2 : Option Addr) (n n2 c c2 : Nat) (l m : List Factor) (w : World) (hn : n ≤ 1048576) (hn2 : n2 ≤ 1048576) (hr : RowF w A n l) (hr2 : RowF w A2 n2 m) :
    Calls Tryz.prog 19 #[.slice A n c, .slice A2 n2 c2] w fun e w' => e = rBool (sameL l m) ∧ Below w.heap.size w w' := by
  by_cases hnn : n = n2
  · subst hnn
    go_enter Tryz.func19, Tryz.ntmps19
    go_wp2
    go_loopw [14] (fun i wr => ∃ (k : Nat), k ≤ n ∧ i = .int .i64 k ∧ SameInv l m k ∧ Below w.heap.size w wr) (fun i _ => n - (intOf i).toNat)
    case atStart => exact ⟨0, by omega, rfl, rfl, Below.refl _ _⟩
    case round =>
      obtain ⟨k, hk, rfl, hi, hb⟩ := hrel
      by_cases hlt : k < n
      · obtain ⟨f, g, off, hf, rfl, g0, g1, g2, g3, g4, g5, g6, g7⟩ := RowF.at_ (hr.below hb) hlt
        obtain ⟨f2, g', off', hf2, rfl, k0, k1, k2, k3, k4, k5, k6, k7⟩ := RowF.at_ (hr2.below hb) hlt
        have hst := hi.step hf hf2
        have h0 : (0 : Int) ≤ (k : Int) := by omega
        have h1 : (k : Int) < (n : Int) := by omega
        have hne := fun W => run_neq_Factor W f f2
        have HS := Lib.hid hst
        clear hst hi
        have l0 := cell_lt g0
        have l1 := cell_lt k0
        dsimp only at l0 l1
        generalize hb2 : f.same f2 = b at hne
        have HB := Lib.hid hb2
        clear hb2
        cases b
        · have hfin : Hid (sameL l m = false) := by rw [Hid, HS.out, HB.out, Bool.false_and]
          go_wp2_with fail
          go_quiet (fail)
          go_wp2
          go_ret
          exact ⟨by rw [hfin.out]; rfl, by repeat (first | assumption | refine bDrewN ?_ _ | refine bDrew ?_ | refine bAlloc ?_ _)⟩
        · have hnx : SameInv l m (k + 1) := by rw [SameInv, HS.out, HB.out, Bool.true_and]
          go_wp2_with fail
          go_quiet (fail)
          go_wp2
          go_roundw
          case rel => exact ⟨k + 1, by omega, by go_num, hnx, by repeat (first | assumption | refine bDrewN ?_ _ | refine bDrew ?_ | refine bAlloc ?_ _)⟩
          case measure => simp [intOf]; omega
      · have hfin := hi.done hr.len hr2.len hlt
        go_wp2
        go_ret
        exact ⟨by rw [hfin.out]; rfl, hb⟩
  · have hfin : Hid (sameL l m = false) := sameL_len l m (by rw [hr.len.out, hr2.len.out]; exact hnn)
    have hbb : ((n : Int) == (n2 : Int)) = false := by simp; omega
    have hbb2 : ((n : Int) != (n2 : Int)) = true := by simp; omega
    go_enter Tryz.func19, Tryz.ntmps19
    go_wp2
    go_ret
    exact ⟨by rw [hfin.out]; rfl, Below.refl _ _⟩

/-! ### is it there -/
def hasId (l : List Factor) (id : Int) : Bool := l.any fun f => f.id == id
def findId : List Factor → Int → Int → Int
  | [], _, _ => -1
  | f :: l, id, k => if f.id == id then k else findId l id (k + 1)
def hasStr (l : List ByteArray) (s : ByteArray) : Bool := l.any fun t => t.toList == s.toList
def HasInv (l : List Factor) (id : Int) (k : Nat) : Prop := hasId l id = hasId (l.drop k) id
theorem HasInv.step {l : List Factor} {id : Int} {k : Nat} {f : Factor} (h : HasInv l id k) (hf : Hid (l[k]? = some f)) : hasId l id = ((f.id == id) || hasId (l.drop (k + 1)) id) := by
  unfold HasInv at h; rw [h, drop_at hf]; rfl
theorem HasInv.done {l : List Factor} {id : Int} {k n : Nat} (h : HasInv l id k) (hl : Hid (l.length = n)) (hk : ¬ k < n) : Hid (hasId l id = false) := by
  unfold HasInv at h; rw [Hid, h, drop_end hl hk]; rfl
def FindInv (l : List Factor) (id : Int) (k : Nat) : Prop := findId l id 0 = findId (l.drop k) id k
theorem FindInv.step {l : List Factor} {id : Int} {k : Nat} {f : Factor} (h : FindInv l id k) (hf : Hid (l[k]? = some f)) : findId l id 0 = if f.id == id then (k : Int) else findId (l.drop (k + 1)) id ((k + 1 : Nat) : Int) := by
  unfold FindInv at h; rw [h, drop_at hf, findId]; congr 2
theorem FindInv.done {l : List Factor} {id : Int} {k n : Nat} (h : FindInv l id k) (hl : Hid (l.length = n)) (hk : ¬ k < n) : Hid (findId l id 0 = -1) := by
  unfold FindInv at h; rw [Hid, h, drop_end hl hk]; rfl
theorem findId_neg : ∀ (l : List Factor) (id k : Int), 0 ≤ k → decide (findId l id k < 0) = !hasId l id
  | [], id, k, _ => by simp [findId, hasId]
  | f :: l, id, k, h => by
    have ih := findId_neg l id (k + 1) (by omega)
    unfold hasId at ih ⊢
    rw [findId, List.any_cons]
    by_cases he : (f.id == id) = true
    · rw [if_pos he, he]; simp; omega
    · rw [if_neg he, ih]; simp [he]
theorem findId_lo : ∀ (l : List Factor) (id k : Int), 0 ≤ k → -1 ≤ findId l id k ∧ findId l id k ≤ k + l.length
  | [], id, k, h => by simp [findId]; omega
  | f :: l, id, k, h => by
    have ih := findId_lo l id (k + 1) (by omega)
    rw [findId]
    split
    · simp; omega
    · simp only [List.length_cons]; omega
theorem findFactor_c (A : Option Addr) (n c : Nat) (l : List Factor) (id : Int) (w : World) (hn : n ≤ 1048576) (hr : RowF w A n l) :
    Calls Tryz.prog 51 #[.slice A n c, .int .i64 id] w fun e w' => e = rInt (findId l id 0) ∧ Below w.heap.size w w' := by
  go_enter Tryz.func51, Tryz.ntmps51
  go_wp2
  go_loopw [9] (fun i wr => ∃ (k : Nat), k ≤ n ∧ i = .int .i64 k ∧ FindInv l id k ∧ Below w.heap.size w wr) (fun i _ => n - (intOf i).toNat)
  case atStart => exact ⟨0, by omega, rfl, rfl, Below.refl _ _⟩
  case round =>
    obtain ⟨k, hk, rfl, hi, hb⟩ := hrel
    by_cases hlt : k < n
    · obtain ⟨f, g, off, hf, rfl, g0, g1, g2, g3, g4, g5, g6, g7⟩ := RowF.at_ (hr.below hb) hlt
      have hst := hi.step hf
      generalize hbe : (f.id == id) = b at hst
      have HS := Lib.hid hst
      clear hst
      cases b
      · have hnx : FindInv l id (k + 1) := by rw [FindInv, HS.out]; rfl
        go_wp2
        go_roundw
        case rel => exact ⟨k + 1, by omega, by go_num, hnx, bAlloc hb _⟩
        case measure => simp [intOf]; omega
      · go_wp2
        go_ret
        exact ⟨by rw [HS.out]; rfl, bAlloc hb _⟩
    · have hfin := hi.done hr.len hlt
      go_wp2
      go_ret
      exact ⟨by rw [hfin.out]; rfl, hb⟩
def StrInv (l : List ByteArray) (s : ByteArray) (k : Nat) : Prop := hasStr l s = hasStr (l.drop k) s
theorem StrInv.step {l : List ByteArray} {s f : ByteArray} {k : Nat} (h : StrInv l s k) (hf : Hid (l[k]? = some f)) : hasStr l s = ((f.toList == s.toList) || hasStr (l.drop (k + 1)) s) := by
  unfold StrInv at h; rw [h, drop_at hf]; rfl
theorem StrInv.done {l : List ByteArray} {s : ByteArray} {k n : Nat} (h : StrInv l s k) (hl : Hid (l.length = n)) (hk : ¬ k < n) : Hid (hasStr l s = false) := by
  unfold StrInv at h; rw [Hid, h, drop_end hl hk]; rfl
theorem hasString_c (A : Option Addr) (n c : Nat) (l : List ByteArray) (s : ByteArray) (w : World) (hn : n ≤ 1048576) (hr : RowS w A n l) :
    Calls Tryz.prog 96 #[.slice A n c, .string s] w fun e w' => e = rBool (hasStr l s) ∧ w = w' := by
  go_enter Tryz.func96, Tryz.ntmps96
  go_wp2
  go_loop [9, 6] (fun i t => ∃ (k : Nat), k ≤ n ∧ i = .int .i64 k ∧ StrInv l s k) (fun i _ => n - (intOf i).toNat)
  case atStart => exact ⟨0, by omega, rfl, rfl⟩
  case round =>
    obtain ⟨k, hk, rfl, hi⟩ := hrel
    by_cases hlt : k < n
    · obtain ⟨f, g, off, hf, rfl, g0⟩ := RowS.at_ hr hlt
      have hst := hi.step hf
      generalize hbe : (f.toList == s.toList) = b at hst
      have HS := Lib.hid hst
      clear hst
      cases b
      · have hnx : StrInv l s (k + 1) := by rw [StrInv, HS.out, Bool.false_or]
        go_wp2
        go_round
        case rel => exact ⟨k + 1, by omega, by go_num, hnx⟩
        case measure => simp [intOf]; omega
      · go_wp2
        go_ret
        exact ⟨by rw [HS.out, Bool.true_or]; rfl, rfl⟩
    · have hfin := hi.done hr.len hlt
      go_wp2
      go_ret
      exact ⟨by rw [hfin.out]; rfl, rfl⟩

/-! ### the ids that are missing -/
def missing (l m : List Factor) : List Int := (m.filter fun f => !hasId l f.id).map (·.id)
def MissInv (l m : List Factor) (k : Nat) (L : List Int) : Prop := missing l m = L ++ missing l (m.drop k)
theorem MissInv.start (l m : List Factor) : MissInv l m 0 [] := rfl
theorem MissInv.step {l m : List Factor} {k : Nat} {L : List Int} {f : Factor} (h : MissInv l m k L) (hf : Hid (m[k]? = some f)) : MissInv l m (k + 1) (if hasId l f.id then L else L ++ [f.id]) := by
  unfold MissInv at *
  rw [h, drop_at hf]
  unfold missing
  by_cases hx : hasId l f.id = true
  · simp [hx]
  · simp [hx]
theorem MissInv.done {l m : List Factor} {k n : Nat} {L : List Int} (h : MissInv l m k L) (hl : Hid (m.length = n)) (hk : ¬ k < n) : Hid (missing l m = L) := by
  unfold MissInv at h; rw [Hid, h, drop_end hl hk]; simp [missing]
theorem info_Int : (Tryz.prog.info? 3).map (fun i => (i.zero, i.size, i.bytes)) = some (some (.int .i64 0), 1, 8) := by kernel_rfl
/-- the call answers a new slice that reads as L -/
def IntsPost (w : World) (e : Ending) (w' : World) (L : List Int) (t : TypeId) : Prop := ∃ A n c, e = .returned (.slice A n c) ∧ Own w' w.heap.size t 1 A n c (L.map intCells) ∧ Below w.heap.size w w' ∧ n ≤ 1048576
end Go.Proofs.YtebcdjpddoaajaaGreatDoor
