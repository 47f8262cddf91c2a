/- What the draw of a shared list is known to be: a valid list of few factors. No program in sight. -/
import Derived.Test.YtgpmmmfnbphgdaaOnceP
import Derived.Test.YtgpmmmfnbphgdaaDraw2
import Derived.Test.YtgpmmmfnbphgdaaFmtP
namespace Go.Proofs.Ytgpmmmfnbphgdaa
open Go.RowKit
set_option linter.unusedVariables false
set_option linter.unusedSimpArgs false
theorem wfs {n : Int} (h0 : -9223372036854775808 ≤ n) (h1 : n ≤ 9223372036854775807) : wfI n := by
  simp [wfI, Lit.wf, IntKind.min, IntKind.max, IntKind.signed, IntKind.bits]
  omega
theorem isNm_size8 {s : ByteArray} (h : isNm s = true) : s.size ≤ 8 := by
  unfold isNm at h
  simp only [Bool.and_eq_true, decide_eq_true_eq] at h
  omega
theorem nmWith_size8 {s : ByteArray} {b : Int} (h : nmWith s b = true) : s.size ≤ 8 := by
  unfold nmWith at h
  simp only [Bool.and_eq_true] at h
  exact isNm_size8 h.1
theorem size_toList {s : ByteArray} (h : s.toList = []) : s.size = 0 := by
  rw [ByteArray.toList_eq] at h
  show s.data.size = 0
  rw [← Array.length_toList, h]; rfl
theorem vld_small {f : Factor} (h : vldFactor f = true) : f.frm.size ≤ 8 ∧ f.to.size ≤ 8 := by
  obtain ⟨_, _, _, _, h1, h2, h3⟩ := vld_parts h
  refine ⟨?_, h3.elim nmWith_size8 nmWith_size8⟩
  by_cases k : f.kind = 1
  · rw [size_toList (h1 k)]; omega
  · exact nmWith_size8 (h2 k)
theorem vld_ok {f : Factor} (h : vldFactor f = true) : f.ok := by
  have hs := vld_small h
  obtain ⟨h1, h2, h3, h4, _⟩ := vld_parts h
  unfold vldPose at h3
  simp only [Bool.and_eq_true] at h3
  have a1 := inR_iff.1 h1; have a2 := inR_iff.1 h2; have a3 := inR_iff.1 h3.1; have a4 := inR_iff.1 h3.2.1; have a5 := inR_iff.1 h3.2.2
  exact ⟨by simp only [maxLen]; omega, by simp only [maxLen]; omega, wfs (by omega) (by omega), wfs (by omega) (by omega), wfs (by omega) (by omega), wfs (by omega) (by omega), wfs (by omega) (by omega), wfs (by omega) (by omega)⟩
theorem ascL_vld : ∀ {l : List Factor} {p : Option Int}, ascL l p = true → ∀ f ∈ l, vldFactor f = true
  | g :: l, p, h, f, hf => by
    simp only [ascL, Bool.and_eq_true] at h
    rcases List.mem_cons.1 hf with rfl | hf
    · exact h.1
    · exact ascL_vld h.2.2 f hf
theorem isFL_vld {l : List Factor} (h : isFL l = true) : ∀ f ∈ l, vldFactor f = true := ascL_vld (isFL_asc h)
theorem bulk_vld : ∀ {l : List Factor}, (∀ f ∈ l, vldFactor f = true) → sumBulk Factor.bulk l ≤ 16 * l.length
  | [], _ => Nat.le_refl _
  | f :: l, h => by
    have h1 := vld_small (h f (by simp))
    have h2 := bulk_vld (l := l) fun g hg => h g (by simp [hg])
    simp only [sumBulk, Factor.bulk, List.length_cons] at *
    omega
theorem isFL_bulk {l : List Factor} (h : isFL l = true) : bulkF l ≤ 1048576 := by
  have h1 := bulk_vld (isFL_vld h)
  have h2 := isFL_len h
  unfold bulkF; omega
theorem isFL_ok {l : List Factor} (h : isFL l = true) : okF l := fun f hf => vld_ok (isFL_vld h f hf)
theorem isBundle_bulk {r : Int} {l : List Factor} (h : isBundle r l = true) : bulkF l ≤ 1048576 := by
  have h1 := bulk_vld (isBundle_vld h)
  simp only [isBundle, Bool.and_eq_true] at h
  have := inR_iff.1 h.2.1
  unfold bulkF; omega
theorem isBundle_ok {r : Int} {l : List Factor} (h : isBundle r l = true) : okF l := fun f hf => vld_ok (isBundle_vld h f hf)
theorem isBundle_r {r : Int} {l : List Factor} (h : isBundle r l = true) : wfI r := by
  simp only [isBundle, Bool.and_eq_true] at h
  have := inR_iff.1 h.1
  exact wfs (by omega) (by omega)
theorem vld_setid {f : Factor} (h : vldFactor f = true) {x : Int} (hx : 0 ≤ x ∧ x ≤ 99999) : vldFactor ⟨x, f.kind, f.frm, f.to, f.pose, f.weight⟩ = true := by
  unfold vldFactor vldF at h ⊢
  simp only [Bool.and_eq_true] at h ⊢
  exact ⟨inR_iff.2 hx, h.2⟩
theorem ascL_snoc : ∀ {l : List Factor} {f : Factor} {p : Option Int}, ascL l p = true → vldFactor f = true → (∀ g ∈ l, g.id < f.id) → after p f.id = true → ascL (l ++ [f]) p = true
  | [], f, p, _, hv, _, hp => by
    simp only [List.nil_append, ascL, hv, Bool.true_and, Bool.and_true]
    exact hp
  | g :: l, f, p, h, hv, hl, hp => by
    simp only [ascL, Bool.and_eq_true] at h
    simp only [List.cons_append, ascL, Bool.and_eq_true]
    exact ⟨h.1, h.2.1, ascL_snoc h.2.2 hv (fun x hx => hl x (by simp [hx])) (by simpa [after] using hl g (by simp))⟩
end Go.Proofs.Ytgpmmmfnbphgdaa
