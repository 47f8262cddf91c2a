/- The digest's, the bundle's, the journal's text, round by round. No program in sight. -/
import Derived.Test.YtbfajhfmfdiacaaDoorEntP
import Derived.Test.YtbfajhfmfdiacaaDoorBun
import Derived.Test.YtbfajhfmfdiacaaDoorEntryS
namespace Go.Proofs.YtbfajhfmfdiacaaDoor
open Go.RowKit
set_option linter.unusedVariables false
set_option linter.unusedSimpArgs false
set_option maxHeartbeats 1000000
set_option maxRecDepth 100000
/-- the text of the first k factors is s -/
def DigInv (l : List Factor) (k : Nat) (s : ByteArray) : Prop := s.data.toList ++ digL (l.drop k) = digL l
theorem DigInv.next {l : List Factor} {k : Nat} {f : Factor} {s u : ByteArray} (h : DigInv l k s) (hf : Hid (l[k]? = some f)) (hu : u.data.toList = s.data.toList ++ ((fmtFac f).data.toList ++ [10])) : DigInv l (k + 1) u := by
  unfold DigInv at *
  rw [← h, drop_at hf, hu]
  simp [digL]
theorem DigInv.done {l : List Factor} {k n : Nat} {s : ByteArray} (h : DigInv l k s) (hl : Hid (l.length = n)) (hk : ¬ k < n) : chk s = digest l := by
  unfold DigInv at h
  rw [drop_end hl hk] at h
  unfold digest
  congr 1
  apply bext
  simpa [digL] using h
def fmtBun (b : Bundle) : ByteArray := if isBundle b.robot b.factors then bunT b.robot b.factors else ⟨#[]⟩
def BtInv (r : Int) (l : List Factor) (k : Nat) (s : ByteArray) : Prop := s.data.toList ++ facsL (l.drop k) = (bunT r l).data.toList
theorem BtInv.next {r : Int} {l : List Factor} {k : Nat} {f : Factor} {s u : ByteArray} (h : BtInv r l k s) (hf : Hid (l[k]? = some f)) (hv : vldFactor f = true) (hu : u.data.toList = s.data.toList ++ 59 :: (fmtFac f).data.toList) : BtInv r l (k + 1) u := by
  unfold BtInv at *
  rw [← h, drop_at hf, hu, fmtFac_data hv]
  simp [facsL]
theorem BtInv.done {r : Int} {l : List Factor} {k n : Nat} {s : ByteArray} (h : BtInv r l k s) (hl : Hid (l.length = n)) (hk : ¬ k < n) : s = bunT r l := by
  unfold BtInv at h
  rw [drop_end hl hk] at h
  apply bext
  simpa [facsL] using h
theorem bunL_vld {r : Int} : ∀ {l : List Factor} {p : Option Int}, bunL r l p = true → ∀ f ∈ l, vldFactor f = true
  | [], _, _, f, hf => by cases hf
  | g :: l, p, h, f, hf => by
    simp only [bunL, Bool.and_eq_true] at h
    rcases List.mem_cons.1 hf with rfl | hf
    · exact h.1
    · exact bunL_vld h.2.2.2 f hf
theorem isBundle_parts {r : Int} {l : List Factor} (h : isBundle r l = true) : 0 ≤ r ∧ r ≤ 2 ∧ l.length ≤ 4 ∧ ∀ f ∈ l, vldFactor f = true := by
  simp only [isBundle, Bool.and_eq_true] at h
  obtain ⟨h1, h2, h3⟩ := h
  have := inR_iff.1 h1; have := inR_iff.1 h2
  exact ⟨by omega, by omega, by omega, bunL_vld h3⟩
/-- what is left of a journal, at a round's head -/
def JrInv (l : List Entry) (k : Nat) (p : Int) (s : ByteArray) : Prop := jrn l 1 ⟨#[]⟩ = jrn (l.drop k) p s
theorem JrInv.next {l : List Entry} {k : Nat} {e : Entry} {p : Int} {s : ByteArray} (h : JrInv l k p s) (hf : Hid (l[k]? = some e)) (hv : (vldEntry e && inR p 0 65520) = true) : JrInv l (k + 1) (entSum e p) (s ++ entT e p) := by
  unfold JrInv at *
  rw [h, drop_at hf, jrn, if_pos hv]
theorem JrInv.bad {l : List Entry} {k : Nat} {e : Entry} {p : Int} {s : ByteArray} (h : JrInv l k p s) (hf : Hid (l[k]? = some e)) (hv : (vldEntry e && inR p 0 65520) = false) : jrn l 1 ⟨#[]⟩ = ⟨#[]⟩ := by
  unfold JrInv at *
  rw [h, drop_at hf, jrn, if_neg (by simp [hv])]
theorem JrInv.done {l : List Entry} {k n : Nat} {p : Int} {s : ByteArray} (h : JrInv l k p s) (hl : Hid (l.length = n)) (hk : ¬ k < n) : jrn l 1 ⟨#[]⟩ = s := by
  unfold JrInv at h
  rw [h, drop_end hl hk, jrn]
end Go.Proofs.YtbfajhfmfdiacaaDoor
