/- IsIndex: what the two of each answer. -/
import Derived.Test.YtbfajhfmfdiacaaBuildK
import Derived.Test.YtbfajhfmfdiacaaOwn
import Derived.Test.YtbfajhfmfdiacaaProg
import Derived.BigQuiet
import Derived.Deep.QuietTactic
import Derived.StillTailTactics
import Derived.Deep.RegionHeld3
namespace Go.Proofs.Ytbfajhfmfdiacaa
open Go.RowKit
set_option linter.unusedVariables false
set_option linter.unusedSimpArgs false
set_option maxHeartbeats 1600000
set_option maxRecDepth 100000
def PlaceEntry.same (f g : PlaceEntry) : Bool := (f.chunk == g.chunk) && ((f.key == g.key) && (f.place == g.place))
theorem run_neq_PE (w : World) (f g : PlaceEntry) :
    (binOp .neq 73 (vPlaceEntry f.chunk f.key f.place) (vPlaceEntry g.chunk g.key g.place)).run Try.prog w = .ok (.bool (!(f.same g))) w := by
  simp [go_sem]
  unfold PlaceEntry.same
  repeat' split
  all_goals simp_all
def sameE : List PlaceEntry → List PlaceEntry → Bool
  | [], [] => true
  | f :: l, g :: m => f.same g && sameE l m
  | _, _ => false
theorem sameE_len : ∀ (l m : List PlaceEntry), l.length ≠ m.length → sameE l m = false
  | [], [], h => absurd rfl h
  | [], _ :: _, _ => rfl
  | _ :: _, [], _ => rfl
  | f :: l, g :: m, h => by rw [sameE, sameE_len l m (by simpa using h), Bool.and_false]
def SameEInv (l m : List PlaceEntry) (k : Nat) : Prop := sameE l m = sameE (l.drop k) (m.drop k)
theorem SameEInv.step {l m : List PlaceEntry} {k : Nat} {f g : PlaceEntry} (h : SameEInv l m k) (hf : Hid (l[k]? = some f)) (hg : Hid (m[k]? = some g)) : sameE l m = (f.same g && sameE (l.drop (k + 1)) (m.drop (k + 1))) := by
  unfold SameEInv at h
  rw [h, drop_at hf, drop_at hg, sameE]
theorem SameEInv.done {l m : List PlaceEntry} {k n : Nat} (h : SameEInv l m k) (hl : Hid (l.length = n)) (hm : Hid (m.length = n)) (hk : ¬ k < n) : Hid (sameE l m = true) := by
  unfold SameEInv at h
  rw [Hid, h, drop_end hl hk, drop_end hm hk, sameE]
def isIdx (x : PIdx) : Bool := (buildIdx x.places).2 && sameE x.entries (buildIdx x.places).1.entries
theorem equalPE_c (A A2 : Option Addr) (n n2 c c2 : Nat) (l m : List PlaceEntry) (w : World) (hn : n ≤ 1048576) (hn2 : n2 ≤ 1048576) (hr : RowE w A n l) (hr2 : RowE w A2 n2 m) :
    Calls Try.prog 41 #[.slice A n c, .slice A2 n2 c2] w fun e w' => e = rBool (sameE l m) ∧ Below w.heap.size w w' := by
  by_cases hnn : n = n2
  · subst hnn
    go_enter Try.func41, Try.ntmps41
    go_wp2
    go_loopw [13] (fun i wr => ∃ (k : Nat), k ≤ n ∧ i = .int .i64 k ∧ SameEInv l m k ∧ Below w.heap.size w wr) (fun i _ => n - (intOf i).toNat)
    case atStart => exact ⟨0, by omega, rfl, rfl, Below.refl _ _⟩
    case round =>
      obtain ⟨k, hk, rfl, hi, hb⟩ := hrel
      by_cases hlt : k < n
      · obtain ⟨f, g, off, hf, rfl, g0, g1, g2⟩ := RowE.at_ (hr.below hb) hlt
        obtain ⟨f2, g', off', hf2, rfl, k0, k1, k2⟩ := RowE.at_ (hr2.below hb) hlt
        have hst := hi.step hf hf2
        have h0 : (0 : Int) ≤ (k : Int) := by omega
        have h1 : (k : Int) < (n : Int) := by omega
        have hne := fun W => run_neq_PE W f f2
        have HS := Lib.hid hst
        clear hst hi
        have l0 := cell_lt g0
        have l1 := cell_lt k0
        dsimp only at l0 l1
        generalize hb2 : f.same f2 = b at hne
        have HB := Lib.hid hb2
        clear hb2
        cases b
        · have hfin : Hid (sameE l m = false) := by rw [Hid, HS.out, HB.out, Bool.false_and]
          go_wp2_with fail
          go_quiet (fail)
          go_wp2
          go_ret
          exact ⟨by rw [hfin.out]; rfl, by repeat (first | assumption | refine bDrewN ?_ _ | refine bDrew ?_ | refine bAlloc ?_ _)⟩
        · have hnx : SameEInv l m (k + 1) := by rw [SameEInv, HS.out, HB.out, Bool.true_and]
          go_wp2_with fail
          go_quiet (fail)
          go_wp2
          go_roundw
          case rel => exact ⟨k + 1, by omega, by go_num, hnx, by repeat (first | assumption | refine bDrewN ?_ _ | refine bDrew ?_ | refine bAlloc ?_ _)⟩
          case measure => simp [intOf]; omega
      · have hfin := hi.done hr.len hr2.len hlt
        go_wp2
        go_ret
        exact ⟨by rw [hfin.out]; rfl, hb⟩
  · have hfin : Hid (sameE l m = false) := sameE_len l m (by rw [hr.len.out, hr2.len.out]; exact hnn)
    have hbb : ((n : Int) == (n2 : Int)) = false := by simp; omega
    have hbb2 : ((n : Int) != (n2 : Int)) = true := by simp; omega
    go_enter Try.func41, Try.ntmps41
    go_wp2
    go_ret
    exact ⟨by rw [hfin.out]; rfl, Below.refl _ _⟩
theorem impl_IsIndex_k (v : XV) (x : PIdx) (w : World) (hm : bulkX x ≤ 1048576) (hok : okX x) (hr : OwX w v x) :
    Calls Try.prog 18 #[vPIdx v] w fun e w' => e = rBool (isIdx x) ∧ Below w.heap.size w w' := by
  obtain ⟨hp, he⟩ := hr
  have hme : v.e.n ≤ 1048576 := by have h1 := he.rd.len.out; unfold bulkX bulkL at hm; omega
  have hlm := fewX_build x.places
  have HRE : Hid (RowE w v.e.A v.e.n x.entries) := he.rd
  generalize hv : buildIdx x.places = R at hlm
  obtain ⟨y, b⟩ := R
  have hR : isIdx x = (b && sameE x.entries y.entries) := by unfold isIdx; rw [hv]
  have HV := Lib.hid hv
  have HR := Lib.hid hR
  have hokp := hok.1
  clear hv hR he hok
  go_enter Try.func18, Try.ntmps18
  go_wp2_with fail
  refine Calls.mono (impl_BuildIndex_k v.p x.places _ (by unfold bulkX at hm; omega) hokp (OwP.below hp (bAlloc (Below.refl _ _) _))) ?_
  rintro e w1 ⟨v', rfl, ho1, hf1, hb1⟩
  rw [HV.out] at ho1 ⊢
  have hB1 := bTrans (bAlloc (Below.refl w.heap.size w) _) hb1
  have hz1 : w.heap.size < w1.heap.size := by have := hb1.size; (try simp at this); omega
  have k1 := bBox hb1 w.heap.size (by simp)
  have hRy : Hid (RowE w1 v'.e.A v'.e.n y.entries) := ho1.e.rd
  have hyn : v'.e.n ≤ 1048576 := by have h1 : y.entries.length = v'.e.n := ho1.e.rd.len.out; have h2 : y.entries.length ≤ 1048576 := hlm.2; omega
  clear ho1 hf1 hp hm hlm HV hokp
  obtain ⟨⟨pA, pn, pc⟩, ⟨eA, en, ec⟩⟩ := v
  obtain ⟨⟨qA, qn, qc⟩, ⟨fA, fn, fc⟩⟩ := v'
  (try simp only at HRE hRy hme hyn k1)
  cases b
  · have hfin : Hid (isIdx x = false) := by rw [Hid, HR.out]; rfl
    go_wp2_with fail
    go_ret
    exact ⟨by rw [hfin.out]; rfl, by repeat (first | with_reducible exact hB1 | with_reducible refine bAlloc ?_ _)⟩
  · have hfin : Hid (isIdx x = sameE x.entries y.entries) := by rw [Hid, HR.out, Bool.true_and]
    go_wp2_with fail
    refine Calls.mono (equalPE_c eA fA en fn ec fc x.entries y.entries _ hme hyn (Row.below HRE.out (bAlloc hB1 _)) (Row.below hRy.out (bAlloc (Below.refl _ _) _))) ?_
    rintro e w2 ⟨rfl, hb2⟩
    go_wp2_with fail
    go_ret
    exact ⟨ret_bool hfin.out.symm, bTrans (bAlloc hB1 _) hb2⟩
end Go.Proofs.Ytbfajhfmfdiacaa
