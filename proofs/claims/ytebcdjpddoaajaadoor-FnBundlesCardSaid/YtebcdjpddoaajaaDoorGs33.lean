/- Texts of this proof, one behind the other: OnceP, OnceD, Draw7, FctP, BdlP, BunD, Add2. -/
import Derived.Test.YtebcdjpddoaajaaDoorGs1
import Derived.Test.YtebcdjpddoaajaaDoorGs3
import Derived.Test.YtebcdjpddoaajaaDoorGs5
import Derived.Test.YtebcdjpddoaajaaDoorGs6
import Derived.Test.YtebcdjpddoaajaaDoorGs9
import Derived.Test.YtebcdjpddoaajaaDoorGs18
import Derived.Test.YtebcdjpddoaajaaDoorGs19
import Derived.Test.YtebcdjpddoaajaaDoorGs23
import Derived.Test.YtebcdjpddoaajaaDoorGs26
import Derived.Test.YtebcdjpddoaajaaDoorGs29
/- What a bundle that is merged twice adds: the plain law. No program in sight. -/
namespace Go.Proofs.YtebcdjpddoaajaaDoor
open Go.RowKit
set_option linter.unusedVariables false
set_option linter.unusedSimpArgs false

theorem nodup_sub {α : Type} [DecidableEq α] : ∀ {a b : List α}, a.Nodup → (∀ x ∈ a, x ∈ b) → a.length ≤ b.length
  | [], _, _, _ => Nat.zero_le _
  | x :: a, b, hn, hs => by
    have hx : x ∈ b := hs x (by simp)
    have hn' := List.nodup_cons.1 hn
    have h1 := nodup_sub (a := a) (b := b.erase x) hn'.2 (fun y hy => (List.mem_erase_of_ne (fun e : y = x => hn'.1 (by rw [← e]; exact hy))).2 (hs y (by simp [hy])))
    rw [List.length_erase_of_mem hx] at h1
    have h2 := List.length_pos_of_mem hx
    simp only [List.length_cons]; omega
def keys (acc : List ByteArray) : List (List UInt8) := acc.map ByteArray.toList
theorem keys_has (acc : List ByteArray) (s : ByteArray) : hasStr acc s = true ↔ s.toList ∈ keys acc := by
  unfold hasStr keys
  simp only [List.any_eq_true, beq_iff_eq, List.mem_map]
theorem keys_add (acc : List ByteArray) (s : ByteArray) (hn : (keys acc).Nodup) : (keys (addNm acc s)).Nodup ∧ ∀ k, k ∈ keys (addNm acc s) ↔ (k ∈ keys acc ∨ (k ≠ [] ∧ k = s.toList)) := by
  unfold addNm
  split
  · rename_i h
    refine ⟨hn, fun k => ⟨.inl, fun hk => ?_⟩⟩
    rcases hk with hk | ⟨h1, rfl⟩
    · exact hk
    · simp only [Bool.or_eq_true, List.isEmpty_iff] at h
      rcases h with h | h
      · exact absurd h h1
      · exact (keys_has acc s).1 h
  · rename_i h
    simp only [Bool.or_eq_true, List.isEmpty_iff, not_or] at h
    have hs : s.toList ∉ keys acc := fun hm => h.2 ((keys_has acc s).2 hm)
    have e : keys (acc ++ [s]) = keys acc ++ [s.toList] := by simp [keys]
    rw [e]
    refine ⟨List.nodup_append.2 ⟨hn, by simp, fun a ha b hb => by simp at hb; subst hb; exact fun e => hs (e ▸ ha)⟩, fun k => ?_⟩
    simp only [List.mem_append, List.mem_singleton]
    constructor
    · rintro (hk | rfl)
      · exact .inl hk
      · exact .inr ⟨h.1, rfl⟩
    · rintro (hk | ⟨_, rfl⟩)
      · exact .inl hk
      · exact .inr rfl
theorem keys_names : ∀ (l : List Factor) (acc : List ByteArray), (keys acc).Nodup → (keys (l.foldl namesF acc)).Nodup ∧ ∀ k, k ∈ keys (l.foldl namesF acc) ↔ (k ∈ keys acc ∨ (k ≠ [] ∧ ∃ f ∈ l, k = f.frm.toList ∨ k = f.to.toList))
  | [], acc, hn => ⟨hn, fun k => by simp⟩
  | f :: l, acc, hn => by
    have h1 := keys_add acc f.frm hn
    have h2 := keys_add (addNm acc f.frm) f.to h1.1
    have h3 := keys_names l (namesF acc f) h2.1
    refine ⟨h3.1, fun k => ?_⟩
    rw [List.foldl_cons, h3.2]
    unfold namesF
    rw [h2.2, h1.2]
    simp only [List.mem_cons, exists_eq_or_imp]
    constructor
    · rintro (((h | ⟨h, h'⟩) | ⟨h, h'⟩) | ⟨h, h'⟩)
      · exact .inl h
      · exact .inr ⟨h, .inl (.inl h')⟩
      · exact .inr ⟨h, .inl (.inr h')⟩
      · exact .inr ⟨h, .inr h'⟩
    · rintro (h | ⟨h, (h' | h') | h'⟩)
      · exact .inl (.inl (.inl h))
      · exact .inl (.inl (.inr ⟨h, h'⟩))
      · exact .inl (.inr ⟨h, h'⟩)
      · exact .inr ⟨h, h'⟩
theorem names_keys (l : List Factor) : (keys (namesOf l)).Nodup ∧ ∀ k, k ∈ keys (namesOf l) ↔ (k ≠ [] ∧ ∃ f ∈ l, k = f.frm.toList ∨ k = f.to.toList) := by
  have h := keys_names l [] (by simp [keys])
  refine ⟨h.1, fun k => ?_⟩
  unfold namesOf
  rw [h.2]
  simp [keys]
theorem keys_len (acc : List ByteArray) : (keys acc).length = acc.length := by simp [keys]
/-- names out of a set -/
theorem names_in {l : List Factor} {S : List (List UInt8)} (h : ∀ f ∈ l, (f.frm.toList = [] ∨ f.frm.toList ∈ S) ∧ (f.to.toList = [] ∨ f.to.toList ∈ S)) : (namesOf l).length ≤ S.length := by
  rw [← keys_len]
  refine nodup_sub (names_keys l).1 fun k hk => ?_
  obtain ⟨h0, f, hf, hk⟩ := ((names_keys l).2 k).1 hk
  rcases hk with rfl | rfl
  · exact (h f hf).1.resolve_left h0
  · exact (h f hf).2.resolve_left h0
theorem names_sub {l m : List Factor} (h : ∀ f ∈ l, f ∈ m) : (namesOf l).length ≤ (namesOf m).length := by
  rw [← keys_len, ← keys_len]
  refine nodup_sub (names_keys l).1 fun k hk => ?_
  obtain ⟨h0, f, hf, hk⟩ := ((names_keys l).2 k).1 hk
  exact ((names_keys m).2 k).2 ⟨h0, f, h f hf, hk⟩
theorem mem_insF {l : List Factor} {f g : Factor} : g ∈ insF l f ↔ g = f ∨ g ∈ l := by
  unfold insF
  rw [List.mem_append, List.mem_cons]
  constructor
  · rintro (h | h | h)
    · exact .inr (List.mem_of_mem_take h)
    · exact .inl h
    · exact .inr (List.mem_of_mem_drop h)
  · rintro (h | h)
    · exact .inr (.inl h)
    · rw [← List.take_append_drop (insAt l f) l] at h
      rcases List.mem_append.1 h with h | h
      · exact .inl h
      · exact .inr (.inr h)
def after (p : Option Int) (x : Int) : Bool := match p with | none => true | some q => decide (q < x)
theorem ascL_ins_ok : ∀ {l : List Factor} {f : Factor} {p : Option Int}, ascL l p = true → vldFactor f = true → hasId l f.id = false → after p f.id = true → ascL (insF l f) p = true
  | [], f, p, _, hv, _, hp => by
    rw [insF_nil]
    simp only [ascL, hv, Bool.true_and, Bool.and_true]
    exact hp
  | g :: l, f, p, ha, hv, hh, hp => by
    have hh' : (g.id == f.id) = false ∧ hasId l f.id = false := by
      unfold hasId at hh ⊢
      simpa using hh
    have hne : g.id ≠ f.id := by simpa using hh'.1
    simp only [ascL, Bool.and_eq_true] at ha
    obtain ⟨a1, a2, a3⟩ := ha
    by_cases hlt : g.id < f.id
    · rw [insF_cons_lt hlt]
      simp only [ascL, Bool.and_eq_true]
      exact ⟨a1, a2, ascL_ins_ok a3 hv hh'.2 (by simpa [after] using hlt)⟩
    · rw [insF_cons_ge hlt]
      simp only [ascL, Bool.and_eq_true]
      exact ⟨hv, hp, a1, by simp; omega, a3⟩
theorem hasId_iff {l : List Factor} {id : Int} : hasId l id = true ↔ ∃ f ∈ l, f.id = id := by
  unfold hasId
  simp only [List.any_eq_true, beq_iff_eq]
/-- why a factor is not added -/
theorem rej_iff {l : List Factor} {f : Factor} (h : isFL l = true) (hv : vldFactor f = true) : (addF l f).2 = false ↔ (hasId l f.id = true ∨ 40 ≤ l.length ∨ 10 ≤ (namesOf (insF l f)).length) := by
  constructor
  · intro hr
    cases hh : hasId l f.id with
    | true => exact .inl rfl
    | false =>
      refine .inr ?_
      have ha := ascL_ins_ok (isFL_asc h) hv hh rfl
      have hn : isFL (insF l f) = false := by
        cases hc : isFL (insF l f) with
        | false => rfl
        | true => rw [addF_yes h hc] at hr; cases hr
      unfold isFL at hn
      rw [ha, insF_len] at hn
      simp only [Bool.true_and, Bool.and_eq_false_iff, decide_eq_false_iff_not] at hn
      omega
  · rintro (hh | hh | hh)
    · rw [addF_has h hh]
    · rw [addF_bad]
      unfold isFL
      rw [insF_len]
      simp only [Bool.and_eq_false_iff, decide_eq_false_iff_not]
      exact .inl (by omega)
    · rw [addF_bad]
      unfold isFL
      simp only [Bool.and_eq_false_iff, decide_eq_false_iff_not]
      exact .inr (.inr (by omega))
theorem addF_cases {l : List Factor} {f : Factor} (h : (addF l f).2 = true) : (addF l f).1 = insF l f ∧ isFL (insF l f) = true ∧ isFL l = true := by
  unfold addF at h ⊢
  split
  · rename_i hc; simp only [Bool.and_eq_true] at hc; exact ⟨rfl, hc.2, hc.1⟩
  · rename_i hc; rw [if_neg hc] at h; cases h
theorem rej_mono {l m : List Factor} {f : Factor} (hl : isFL l = true) (hm : isFL m = true) (hv : vldFactor f = true) (hs : ∀ g ∈ l, g ∈ m) (hn : l.length ≤ m.length) (h : (addF l f).2 = false) : (addF m f).2 = false := by
  refine (rej_iff hm hv).2 ?_
  rcases (rej_iff hl hv).1 h with h | h | h
  · obtain ⟨g, hg, e⟩ := hasId_iff.1 h
    exact .inl (hasId_iff.2 ⟨g, hs g hg, e⟩)
  · exact .inr (.inl (by omega))
  · refine .inr (.inr (Nat.le_trans h (names_sub fun g hg => ?_)))
    rcases mem_insF.1 hg with rfl | hg
    · exact mem_insF.2 (.inl rfl)
    · exact mem_insF.2 (.inr (hs g hg))
/-- what a row of additions leaves -/
structure MgOut (l0 l : List Factor) (a : List Factor) (fs : List Factor) (out : List Factor × List Factor) : Prop where
  fl : isFL out.1 = true
  sub : ∀ g ∈ l, g ∈ out.1
  len : out.1.length + a.length = l.length + out.2.length
  le : l.length ≤ out.1.length
  rej : ∀ f ∈ fs, (addF out.1 f).2 = false
  mis : (missing l0 out.1).length + a.length = (missing l0 l).length + out.2.length
theorem missing_ins {l0 l : List Factor} {f : Factor} (h : hasId l0 f.id = false) : (missing l0 (insF l f)).length = (missing l0 l).length + 1 := by
  have e : (l.filter fun f => !hasId l0 f.id).length = ((l.take (insAt l f)).filter fun f => !hasId l0 f.id).length + ((l.drop (insAt l f)).filter fun f => !hasId l0 f.id).length := by
    rw [← List.length_append, ← List.filter_append, List.take_append_drop]
  unfold missing insF
  rw [List.length_map, List.length_map, e, List.filter_append, List.filter_cons, h]
  simp
  omega
theorem merge_out (l0 : List Factor) : ∀ (fs l a : List Factor), isFL l = true → (∀ g ∈ l0, g ∈ l) → (∀ f ∈ fs, vldFactor f = true) → MgOut l0 l a fs (fs.foldl mergeStep (l, a))
  | [], l, a, h, hs, _ => ⟨h, fun g hg => hg, rfl, Nat.le_refl _, fun f hf => (by cases hf), rfl⟩
  | f :: fs, l, a, h, hs, hv => by
    rw [List.foldl_cons]
    have hvf := hv f (by simp)
    cases hr : (addF l f).2 with
    | false =>
      have e : mergeStep (l, a) f = (l, a) := by simp [mergeStep, hr]
      rw [e]
      have ih := merge_out l0 fs l a h hs (fun g hg => hv g (by simp [hg]))
      refine ⟨ih.fl, ih.sub, ih.len, ih.le, fun g hg => ?_, ih.mis⟩
      rcases List.mem_cons.1 hg with rfl | hg
      · exact rej_mono h ih.fl hvf ih.sub ih.le hr
      · exact ih.rej g hg
    | true =>
      obtain ⟨e1, e2, _⟩ := addF_cases hr
      have e : mergeStep (l, a) f = (insF l f, a ++ [f]) := by simp [mergeStep, hr, e1]
      rw [e]
      have ih := merge_out l0 fs (insF l f) (a ++ [f]) e2 (fun g hg => mem_insF.2 (.inr (hs g hg))) (fun g hg => hv g (by simp [hg]))
      have hid : hasId l f.id = false := by
        cases hc : hasId l f.id with
        | false => rfl
        | true => rw [addF_has h hc] at hr; cases hr
      have hid0 : hasId l0 f.id = false := by
        cases hc : hasId l0 f.id with
        | false => rfl
        | true =>
          obtain ⟨g, hg, e⟩ := hasId_iff.1 hc
          rw [hasId_iff.2 ⟨g, hs g hg, e⟩] at hid
          cases hid
      have hl := ih.len; have hle := ih.le; have hm := ih.mis
      rw [missing_ins hid0] at hm
      rw [insF_len] at hl hle
      simp only [List.length_append, List.length_singleton] at hl hm
      refine ⟨ih.fl, fun g hg => ih.sub g (mem_insF.2 (.inr hg)), by omega, by omega, fun g hg => ?_, by omega⟩
      rcases List.mem_cons.1 hg with rfl | hg
      · refine (rej_iff ih.fl hvf).2 (.inl (hasId_iff.2 ⟨g, ih.sub g (mem_insF.2 (.inl rfl)), rfl⟩))
      · exact ih.rej g hg
theorem merge_none : ∀ (fs l a : List Factor), (∀ f ∈ fs, (addF l f).2 = false) → fs.foldl mergeStep (l, a) = (l, a)
  | [], _, _, _ => rfl
  | f :: fs, l, a, h => by
    have e : mergeStep (l, a) f = (l, a) := by simp [mergeStep, h f (by simp)]
    rw [List.foldl_cons, e]
    exact merge_none fs l a fun g hg => h g (by simp [hg])
theorem bunL_vldO {r : Int} : ∀ {l : List Factor} {p : Option Int}, bunL r l p = true → ∀ f ∈ l, vldFactor f = true
  | g :: l, p, h, f, hf => by
    simp only [bunL, Bool.and_eq_true] at h
    rcases List.mem_cons.1 hf with rfl | hf
    · exact h.1
    · exact bunL_vldO h.2.2.2 f hf
theorem isBundle_vld {r : Int} {l : List Factor} (h : isBundle r l = true) : ∀ f ∈ l, vldFactor f = true := by
  simp only [isBundle, Bool.and_eq_true] at h
  exact bunL_vldO h.2.2
theorem same_refl (f : Factor) : f.same f = true := by simp [Factor.same]
theorem sameL_refl : ∀ l : List Factor, sameL l l = true
  | [] => rfl
  | f :: l => by simp [sameL, same_refl, sameL_refl l]
theorem missing_self (l : List Factor) : missing l l = [] := by
  unfold missing
  rw [List.filter_eq_nil_iff.2, List.map_nil]
  intro f hf
  simp [hasId_iff.2 ⟨f, hf, rfl⟩]
/-- a bundle that is merged twice -/
theorem once_law {l fs : List Factor} {r : Int} (h : isFL l = true) (hb : isBundle r fs = true) :
    isFL (mergeB l r fs).1 = true ∧ mergeB (mergeB l r fs).1 r fs = ((mergeB l r fs).1, []) ∧ (missing l (mergeB l r fs).1).length = (mergeB l r fs).2.length ∧ (mergeB l r fs).1.length = l.length + (mergeB l r fs).2.length := by
  have e : mergeB l r fs = fs.foldl mergeStep (l, []) := by simp [mergeB, h, hb]
  have ho := merge_out l fs l [] h (fun g hg => hg) (isBundle_vld hb)
  rw [← e] at ho
  refine ⟨ho.fl, ?_, ?_, ?_⟩
  · have e2 : mergeB (mergeB l r fs).1 r fs = fs.foldl mergeStep ((mergeB l r fs).1, []) := by
      have hfl := ho.fl
      generalize (mergeB l r fs).1 = m at hfl ⊢
      simp [mergeB, hfl, hb]
    rw [e2]
    exact merge_none _ _ _ ho.rej
  · have := ho.mis
    rw [missing_self] at this
    simpa using this
  · simpa using ho.len
end Go.Proofs.YtebcdjpddoaajaaDoor

/- What the draw of a shared list is known to be: a valid list of few factors. No program in sight. -/
namespace Go.Proofs.YtebcdjpddoaajaaDoor
open Go.RowKit
set_option linter.unusedVariables false
set_option linter.unusedSimpArgs false
theorem wfs {n : Int} (h0 : -9223372036854775808 ≤ n) (h1 : n ≤ 9223372036854775807) : wfI n := by
  simp [wfI, Lit.wf, IntKind.min, IntKind.max, IntKind.signed, IntKind.bits]
  omega
theorem isNm_size8 {s : ByteArray} (h : isNm s = true) : s.size ≤ 8 := by
  unfold isNm at h
  simp only [Bool.and_eq_true, decide_eq_true_eq] at h
  omega
theorem nmWith_size8 {s : ByteArray} {b : Int} (h : nmWith s b = true) : s.size ≤ 8 := by
  unfold nmWith at h
  simp only [Bool.and_eq_true] at h
  exact isNm_size8 h.1
theorem size_toList {s : ByteArray} (h : s.toList = []) : s.size = 0 := by
  rw [ByteArray.toList_eq] at h
  show s.data.size = 0
  rw [← Array.length_toList, h]; rfl
theorem vld_small {f : Factor} (h : vldFactor f = true) : f.frm.size ≤ 8 ∧ f.to.size ≤ 8 := by
  obtain ⟨_, _, _, _, h1, h2, h3⟩ := vld_parts h
  refine ⟨?_, h3.elim nmWith_size8 nmWith_size8⟩
  by_cases k : f.kind = 1
  · rw [size_toList (h1 k)]; omega
  · exact nmWith_size8 (h2 k)
theorem vld_ok {f : Factor} (h : vldFactor f = true) : f.ok := by
  have hs := vld_small h
  obtain ⟨h1, h2, h3, h4, _⟩ := vld_parts h
  unfold vldPose at h3
  simp only [Bool.and_eq_true] at h3
  have a1 := inR_iff.1 h1; have a2 := inR_iff.1 h2; have a3 := inR_iff.1 h3.1; have a4 := inR_iff.1 h3.2.1; have a5 := inR_iff.1 h3.2.2
  exact ⟨by simp only [maxLen]; omega, by simp only [maxLen]; omega, wfs (by omega) (by omega), wfs (by omega) (by omega), wfs (by omega) (by omega), wfs (by omega) (by omega), wfs (by omega) (by omega), wfs (by omega) (by omega)⟩
theorem ascL_vld : ∀ {l : List Factor} {p : Option Int}, ascL l p = true → ∀ f ∈ l, vldFactor f = true
  | g :: l, p, h, f, hf => by
    simp only [ascL, Bool.and_eq_true] at h
    rcases List.mem_cons.1 hf with rfl | hf
    · exact h.1
    · exact ascL_vld h.2.2 f hf
theorem isFL_vld {l : List Factor} (h : isFL l = true) : ∀ f ∈ l, vldFactor f = true := ascL_vld (isFL_asc h)
theorem bulk_vld : ∀ {l : List Factor}, (∀ f ∈ l, vldFactor f = true) → sumBulk Factor.bulk l ≤ 16 * l.length
  | [], _ => Nat.le_refl _
  | f :: l, h => by
    have h1 := vld_small (h f (by simp))
    have h2 := bulk_vld (l := l) fun g hg => h g (by simp [hg])
    simp only [sumBulk, Factor.bulk, List.length_cons] at *
    omega
theorem isFL_bulk {l : List Factor} (h : isFL l = true) : bulkF l ≤ 1048576 := by
  have h1 := bulk_vld (isFL_vld h)
  have h2 := isFL_len h
  unfold bulkF; omega
theorem isFL_ok {l : List Factor} (h : isFL l = true) : okF l := fun f hf => vld_ok (isFL_vld h f hf)
theorem isBundle_bulk {r : Int} {l : List Factor} (h : isBundle r l = true) : bulkF l ≤ 1048576 := by
  have h1 := bulk_vld (isBundle_vld h)
  simp only [isBundle, Bool.and_eq_true] at h
  have := inR_iff.1 h.2.1
  unfold bulkF; omega
theorem isBundle_ok {r : Int} {l : List Factor} (h : isBundle r l = true) : okF l := fun f hf => vld_ok (isBundle_vld h f hf)
theorem isBundle_r {r : Int} {l : List Factor} (h : isBundle r l = true) : wfI r := by
  simp only [isBundle, Bool.and_eq_true] at h
  have := inR_iff.1 h.1
  exact wfs (by omega) (by omega)
theorem vld_setid {f : Factor} (h : vldFactor f = true) {x : Int} (hx : 0 ≤ x ∧ x ≤ 99999) : vldFactor ⟨x, f.kind, f.frm, f.to, f.pose, f.weight⟩ = true := by
  unfold vldFactor vldF at h ⊢
  simp only [Bool.and_eq_true] at h ⊢
  exact ⟨inR_iff.2 hx, h.2⟩
theorem ascL_snoc : ∀ {l : List Factor} {f : Factor} {p : Option Int}, ascL l p = true → vldFactor f = true → (∀ g ∈ l, g.id < f.id) → after p f.id = true → ascL (l ++ [f]) p = true
  | [], f, p, _, hv, _, hp => by
    simp only [List.nil_append, ascL, hv, Bool.true_and, Bool.and_true]
    exact hp
  | g :: l, f, p, h, hv, hl, hp => by
    simp only [ascL, Bool.and_eq_true] at h
    simp only [List.cons_append, ascL, Bool.and_eq_true]
    exact ⟨h.1, h.2.1, ascL_snoc h.2.2 hv (fun x hx => hl x (by simp [hx])) (by simpa [after] using hl g (by simp))⟩
end Go.Proofs.YtebcdjpddoaajaaDoor

/- The draws of a shared list: l28List, MakeShared; of a robot's list: MakeFactors; of one factor: MakeFactor. -/
namespace Go.Proofs.YtebcdjpddoaajaaDoor
open Go.RowKit
set_option linter.unusedVariables false
set_option linter.unusedSimpArgs false
set_option maxHeartbeats 1000000
set_option maxRecDepth 100000
def nm7 : List (List UInt8) := [(pnm 0).toList, (pnm 1).toList, (pnm 2).toList, (pnm 3).toList, (pnm 4).toList, (mnm 0).toList, (mnm 1).toList]
theorem nmOK.in7 {s : ByteArray} (h : nmOK s) : s.toList = [] ∨ s.toList ∈ nm7 := by
  rcases h with rfl | ⟨j, hj, rfl⟩ | ⟨j, hj, rfl⟩
  · exact .inl (by decide +kernel)
  · right
    match j, hj with
    | 0, _ | 1, _ | 2, _ | 3, _ | 4, _ => simp [nm7]
    | j + 5, hj => omega
  · right
    match j, hj with
    | 0, _ | 1, _ => simp [nm7]
    | j + 2, hj => omega
theorem FOK.names {l : List Factor} (h : ∀ f ∈ l, FOK f) : (namesOf l).length ≤ 7 := names_in (S := nm7) fun f hf => ⟨(h f hf).2.1.in7, (h f hf).2.2.in7⟩
/-- the state of l28List behind i rounds -/
structure SInv (r : Int) (i : Nat) (l : List Factor) : Prop where
  len : l.length = i
  fok : ∀ f ∈ l, FOK f
  lt : ∀ f ∈ l, f.id < 1000 * r + i
  asc : ascL l none = true
theorem SInv.push {r r' : Int} {i : Nat} {l : List Factor} {f : Factor} (h : SInv r i l) (hf : FOK f) (h0 : 0 ≤ r) (hr : r ≤ r') (h2 : r' ≤ 2) (hi : i ≤ 100) : SInv r' (i + 1) (l ++ [⟨1000 * r' + i, f.kind, f.frm, f.to, f.pose, f.weight⟩]) := by
  have hv := vld_setid hf.1 (x := 1000 * r' + i) ⟨by omega, by omega⟩
  refine ⟨by simp [h.len], fun g hg => ?_, fun g hg => ?_, ascL_snoc h.asc hv (fun g hg => ?_) rfl⟩
  · rcases List.mem_append.1 hg with hg | hg
    · exact h.fok g hg
    · simp at hg; subst hg; exact ⟨hv, hf.2⟩
  · rcases List.mem_append.1 hg with hg | hg
    · have := h.lt g hg; push_cast; omega
    · simp at hg; subst hg; simp; omega
  · have := h.lt g hg; show g.id < 1000 * r' + i; omega
theorem SInv.fl {r : Int} {i : Nat} {l : List Factor} (h : SInv r i l) (hi : i ≤ 40) : isFL l = true := by
  unfold isFL
  have h1 := FOK.names h.fok
  simp only [Bool.and_eq_true, decide_eq_true_eq]
  exact ⟨by rw [h.len]; exact hi, h.asc, by omega⟩
/-- behind the append of a round of l28List -/
theorem l28_push {W w w2 w5 : World} {b : Nat} {A : Option Addr} {n c X : Nat} {A' VA A5 : Option Addr} {k c' vn vc c5 : Nat} {css ces : List (List Value)} {cs5 : List (List Value)} {u : Value} {o : Obj} (hlt : b < w.heap.size) (HWW : Below W.heap.size W w) (HbW : W.heap.size ≤ b)
    (hc : Cur W w2 b A n c) (hu : Upd [b] w w2) (ho : Own w2 w.heap.size 28 8 A' k c' css) (hov : Own w2 w.heap.size 28 8 VA vn vc ces) (hd : ∀ q, ob VA = some q → ¬ ob A' = some q)
    (hX : w.heap.size ≤ X) (hXV : ¬ ob VA = some X) (hg : ((w2.setCell ⟨X, 0, none⟩ u).alloc o).grownBy w5 (ob A')) (ho5 : Own w5 w.heap.size 28 8 A5 (k + 1) c5 cs5) (hat : ob A5 = ob A' ∨ ob A5 = some ((w2.setCell ⟨X, 0, none⟩ u).alloc o).heap.size) :
    Own w5 w.heap.size 28 8 VA vn vc ces ∧ (∀ q, ob VA = some q → ¬ ob A5 = some q) ∧ Cur W w5 b A n c ∧ Upd [b] w w5 := by
  have hs : Upd [X] w2 (w2.setCell ⟨X, 0, none⟩ u) := (Upd.refl _ _).set_in (by simp) _
  have hov2 := hov.upd hs (fun q hq hm => by simp only [List.mem_singleton] at hm; subst hm; exact hXV (mem_obl.1 hq))
  have hu2 := (hu.set_new (p := ⟨X, 0, none⟩) hX u).alloc_ o
  have hc2 := (hc.set_ (p := ⟨X, 0, none⟩) (Nat.lt_of_lt_of_le hlt hX) u).alloc_ o
  have hu5 : Upd [b] w w5 := Upd.grown_hi2 hu2 hg (fun q hq => (ho.lt q hq).1)
  refine ⟨(hov2.alloc_ o).upd (Upd.of_row hg) (fun q hq hm => hd q (mem_obl.1 hq) (mem_obl.1 hm)), fun q hq e => ?_, hc2.keep (bUpd1 (w := w) HWW hu5 HbW) (hg.block b (by have := hc.lt; simp; omega) (fun e => by have := (ho.lt b e.symm).1; omega)), hu5⟩
  rcases hat with h1 | h1
  · exact hd q hq (h1 ▸ e)
  · rw [h1] at e
    have h2 := Option.some.inj e
    have h3 := (hov.lt q hq).2
    simp at h2; omega
theorem l28List_c {W w : World} {b : Nat} {A : Option Addr} {n c : Nat} (hy : Bytes W A n) (hn : n ≤ 1048576) (h : Cur W w b A n c) :
    Calls Tryd.prog 59 #[.pointer (some ⟨b, 0, none⟩)] w fun e w' => ∃ (v : Sv) (l : List Factor), e = .returned (.slice v.A v.n v.c) ∧ isFL l = true ∧ 0 < l.length ∧ (∀ f ∈ l, f.id ≤ 2999) ∧ Own w' w.heap.size 28 8 v.A v.n v.c (l.map Factor.cells) ∧ Cur W w' b A n c ∧ Upd [b] w w' := by
  obtain ⟨i0, hi, hz0, hz1, hz2⟩ := info_parts info_Factor
  have hlt := h.lt
  have HWW := Lib.hid h.hB
  have HbW := Lib.hid h.hb
  have hy' := Lib.hid hy
  have HC := Lib.hid (h.alloc_ (.cells #[] 28))
  clear h hy
  go_enter Tryd.func59, Tryd.ntmps59
  go_wp2_with fail
  refine Calls.mono (l16List_c hy'.out hn HC.out) ?_
  rintro e w1 ⟨v, l0, rfl, hlen, hfok, hov, hc1, hu1⟩
  have hpos : 0 < l0.length := hfok.1
  have hfok := hfok.2.1
  have U1 : Upd [b] w w1 := (Upd.of_below (bAlloc (Below.refl _ _) _)).trans hu1
  have ho1 : Own w1 w.heap.size 28 8 (some ⟨w.heap.size, 0, none⟩) 0 0 [] := (Own.made0 w _ 8 (Nat.le_refl _)).upd hu1 (fun k hk hm => by simp [obl, ob] at hk hm; omega)
  have hvlo : Hid (∀ q, ob v.A = some q → w.heap.size + 1 ≤ q) := fun q hq => by have := (hov.lt q hq).1; simp at this; omega
  have hov1 : Own w1 w.heap.size 28 8 v.A v.n v.c (l0.map Factor.cells) := hov.rebase (by simp)
  have HLV : Hid (l0.length = v.n) := by have := hov.len; rw [List.length_map] at this; exact this
  have hvn : v.n ≤ 8 := by have := HLV.out; omega
  have HFOK := Lib.hid hfok
  obtain ⟨VA, vn, vc⟩ := v
  dsimp only at *
  have hd0 : ∀ q, ob VA = some q → ¬ ob (some (⟨w.heap.size, 0, none⟩ : Addr)) = some q := fun q hq e => by have h1 := hvlo.out q hq; simp [ob] at e; omega
  have HD0 := Lib.hid hd0
  have HC1 := Lib.hid hc1
  clear HC hov hfok hc1 hu1 hd0
  go_wp2_with fail
  go_loopw [3, 4, 11] (fun s r i wr => ∃ (k : Nat) (rr : Int) (A' : Option Addr) (c' : Nat) (l : List Factor), k ≤ vn ∧ s = .slice A' k c' ∧ r = .int .i64 rr ∧ i = .int .i64 (k : Int) ∧ 0 ≤ rr ∧ rr ≤ 2 ∧ SInv rr k l ∧ Own wr w.heap.size 28 8 A' k c' (l.map Factor.cells) ∧ Own wr w.heap.size 28 8 VA vn vc (l0.map Factor.cells) ∧ (∀ q, ob VA = some q → ¬ ob A' = some q) ∧ Cur W wr b A n c ∧ Upd [b] w wr) (fun _ _ i _ => vn - (intOf i).toNat)
  case atStart => exact ⟨0, 0, _, 0, [], by omega, rfl, rfl, rfl, by omega, by omega, ⟨rfl, by simp, by simp, rfl⟩, by simpa using ho1, hov1, HD0.out, HC1.out, U1⟩
  case round =>
    obtain ⟨k, rr, A', c', l, hk, rfl, rfl, rfl, hr0, hr2, hsi, ho, hov, hd, hc, hu⟩ := hrel
    have HC2 := Lib.hid hc
    have SI := Lib.hid hsi
    have HD := Lib.hid hd
    have HO := Lib.hid ho
    have HOV := Lib.hid hov
    have HU := Lib.hid hu
    clear hc hsi hd ho hov hu HC1 ho1 hov1 U1
    by_cases hltk : k < vn
    · obtain ⟨f, g, off, hf, hA, g0, g1, g2, g3, g4, g5, g6, g7⟩ := RowF.at_ HOV.out.row hltk
      have hff := HFOK.out f (List.mem_of_getElem? hf.out)
      have HFF := Lib.hid hff
      have hx0 : (0 : Int) ≤ (k : Int) := by omega
      have hx1 : (k : Int) < (vn : Int) := by omega
      have HC3 := Lib.hid (HC2.out.alloc_ (.cells f.cells.toArray 28))
      have hsz := HU.out.size
      subst hA
      clear hff hf
      go_wp2_with fail
      refine Calls.mono (l01Once_c hy'.out hn HC3.out 3 (by omega) (by omega)) ?_
      rintro e w2 ⟨o, rfl, hc2, hu2⟩
      have U2 := (HU.out.alloc_ (.cells f.cells.toArray 28)).trans hu2
      have HO2 := Lib.hid ((HO.out.alloc_ (.cells f.cells.toArray 28)).upd hu2 (fun q hq hm => by have h1 := (HO.out.lt q (mem_obl.1 hq)).1; simp at hm; omega))
      have HOV2 := Lib.hid ((HOV.out.alloc_ (.cells f.cells.toArray 28)).upd hu2 (fun q hq hm => by have h1 := (HOV.out.lt q (mem_obl.1 hq)).1; simp at hm; omega))
      have bx := Own.box (t := 28) (cs := f.cells) (heap_alloc_new wr _) rfl
      have bx2 := (bx.upd hu2 (fun q hq hm => by simp [obl, ob] at hq hm; omega))
      have q0 := bx2.bcell 0 _ rfl; have q1 := bx2.bcell 1 _ rfl; have q2 := bx2.bcell 2 _ rfl; have q3 := bx2.bcell 3 _ rfl
      have q4 := bx2.bcell 4 _ rfl; have q5 := bx2.bcell 5 _ rfl; have q6 := bx2.bcell 6 _ rfl; have q7 := bx2.bcell 7 _ rfl
      have qf : ∀ o, w2.frozen? ⟨wr.heap.size, o, none⟩ = false := fun o => (uBoxF hu2 wr.heap.size (by simp) (by simp; omega) o).trans (frozen_a _ _ _ o)
      have qz : wr.heap.size < w2.heap.size := by have := hu2.size; simp at this; omega
      have HA' : Hid (∀ q, ob A' = some q → q < wr.heap.size) := fun q hq => (HO.out.lt q hq).2
      have HXV : ¬ ob (some (⟨g, off, none⟩ : Addr)) = some wr.heap.size := fun e => by have := (HOV.out.lt _ e).2; omega
      have HC4 := Lib.hid hc2
      have U2' := Lib.hid U2
      have hw1 : ∀ z : Int, 0 ≤ z → z ≤ 2 → IntKind.i64.wrap (1000 * z) = 1000 * z := fun z h1 h2 => by rw [IntKind.wrap_i64]; omega
      clear hc2 hu2 HC3 bx bx2 U2 HC2 HU HO HOV g0 g1 g2 g3 g4 g5 g6 g7
      generalize wr.heap.size = X at *
      have hkk : (k : Int) ≤ 8 := by omega
      cases o with
      | true =>
        by_cases hr1 : rr < 2
        · have hra : IntKind.i64.wrap (rr + 1) = rr + 1 := by rw [IntKind.wrap_i64]; omega
          have HOs := Lib.hid (HO2.out.upd ((Upd.refl [X] w2).set_in (p := ⟨X, 0, none⟩) (by simp) (.int .i64 (1000 * (rr + 1) + (k : Int)))) (fun q hq hm => by simp only [List.mem_singleton] at hm; subst hm; have := HA'.out q (mem_obl.1 hq); omega))
          have hw3 := hw1 ((rr + 1)) (by omega) (by omega)
          have hw4 : IntKind.i64.wrap (1000 * (rr + 1) + (k : Int)) = 1000 * (rr + 1) + (k : Int) := by rw [IntKind.wrap_i64]; omega
          clear hw1
          go_wp2_with (at_builtin; refine wpList_append rfl (.tmp 29) (.tmp 31) 23 rfl w.heap.size 28 8 80 i0 _ Tryd.underlying23 hi hz0 hz1 hz2 rfl (by omega) A' k c' _ rfl (HOs.out.alloc_ _) _ 1 1 [Factor.cells ⟨1000 * (rr + 1) + (k : Int), f.kind, f.frm, f.to, f.pose, f.weight⟩] rfl (Row.new1' _ _ _ 8 _ (by simp)) (by simp [Factor.cells]) (by simp [Factor.cells, Value.oneCell']) (by simp only [maxLen]; omega) (by omega) (by simp; omega) ?_; intro A5 c5 w5 ho5 hg5 hat5)
          obtain ⟨p1, p2, p3, p4⟩ := l28_push hlt HWW.out HbW.out HC4.out U2'.out HO2.out HOV2.out HD.out hsz HXV hg5 ho5 hat5
          exact ⟨⟨k + 1, (rr + 1), A5, c5, l ++ [⟨1000 * (rr + 1) + (k : Int), f.kind, f.frm, f.to, f.pose, f.weight⟩], by omega, rfl, by simp, by simp, by omega, by omega, SI.out.push HFF.out hr0 (by omega) (by omega) (by omega), by simpa using ho5, p1, p2, p3, p4⟩, by simp only [intOf]; omega⟩
        · have HOs := Lib.hid (HO2.out.upd ((Upd.refl [X] w2).set_in (p := ⟨X, 0, none⟩) (by simp) (.int .i64 (1000 * rr + (k : Int)))) (fun q hq hm => by simp only [List.mem_singleton] at hm; subst hm; have := HA'.out q (mem_obl.1 hq); omega))
          have hw3 := hw1 (rr) (by omega) (by omega)
          have hw4 : IntKind.i64.wrap (1000 * rr + (k : Int)) = 1000 * rr + (k : Int) := by rw [IntKind.wrap_i64]; omega
          clear hw1
          go_wp2_with (at_builtin; refine wpList_append rfl (.tmp 29) (.tmp 31) 23 rfl w.heap.size 28 8 80 i0 _ Tryd.underlying23 hi hz0 hz1 hz2 rfl (by omega) A' k c' _ rfl (HOs.out.alloc_ _) _ 1 1 [Factor.cells ⟨1000 * rr + (k : Int), f.kind, f.frm, f.to, f.pose, f.weight⟩] rfl (Row.new1' _ _ _ 8 _ (by simp)) (by simp [Factor.cells]) (by simp [Factor.cells, Value.oneCell']) (by simp only [maxLen]; omega) (by omega) (by simp; omega) ?_; intro A5 c5 w5 ho5 hg5 hat5)
          obtain ⟨p1, p2, p3, p4⟩ := l28_push hlt HWW.out HbW.out HC4.out U2'.out HO2.out HOV2.out HD.out hsz HXV hg5 ho5 hat5
          exact ⟨⟨k + 1, rr, A5, c5, l ++ [⟨1000 * rr + (k : Int), f.kind, f.frm, f.to, f.pose, f.weight⟩], by omega, rfl, rfl, by simp, by omega, by omega, SI.out.push HFF.out hr0 (by omega) (by omega) (by omega), by simpa using ho5, p1, p2, p3, p4⟩, by simp only [intOf]; omega⟩
      | false =>
        have HOs := Lib.hid (HO2.out.upd ((Upd.refl [X] w2).set_in (p := ⟨X, 0, none⟩) (by simp) (.int .i64 (1000 * rr + (k : Int)))) (fun q hq hm => by simp only [List.mem_singleton] at hm; subst hm; have := HA'.out q (mem_obl.1 hq); omega))
        have hw3 := hw1 (rr) (by omega) (by omega)
        have hw4 : IntKind.i64.wrap (1000 * rr + (k : Int)) = 1000 * rr + (k : Int) := by rw [IntKind.wrap_i64]; omega
        clear hw1
        go_wp2_with (at_builtin; refine wpList_append rfl (.tmp 29) (.tmp 31) 23 rfl w.heap.size 28 8 80 i0 _ Tryd.underlying23 hi hz0 hz1 hz2 rfl (by omega) A' k c' _ rfl (HOs.out.alloc_ _) _ 1 1 [Factor.cells ⟨1000 * rr + (k : Int), f.kind, f.frm, f.to, f.pose, f.weight⟩] rfl (Row.new1' _ _ _ 8 _ (by simp)) (by simp [Factor.cells]) (by simp [Factor.cells, Value.oneCell']) (by simp only [maxLen]; omega) (by omega) (by simp; omega) ?_; intro A5 c5 w5 ho5 hg5 hat5)
        obtain ⟨p1, p2, p3, p4⟩ := l28_push hlt HWW.out HbW.out HC4.out U2'.out HO2.out HOV2.out HD.out hsz HXV hg5 ho5 hat5
        exact ⟨⟨k + 1, rr, A5, c5, l ++ [⟨1000 * rr + (k : Int), f.kind, f.frm, f.to, f.pose, f.weight⟩], by omega, rfl, rfl, by simp, by omega, by omega, SI.out.push HFF.out hr0 (by omega) (by omega) (by omega), by simpa using ho5, p1, p2, p3, p4⟩, by simp only [intOf]; omega⟩
    · obtain rfl : k = vn := by omega
      have hkn : ¬ (k : Int) < (k : Int) := by omega
      go_wp2_with fail
      refine bodyPost_ret (v := .slice A' k c') (by simp [*, results, Tryd.results59, go_sem]) rfl ?_
      have hle := SI.out.len
      exact ⟨⟨A', k, c'⟩, rfl, l, SI.out.fl (by omega), by have := HLV.out; omega, fun f hf => by have := SI.out.lt f hf; omega, HO.out, HC2.out, HU.out⟩
theorem MakeShared_c {W w : World} {A : Option Addr} {n c : Nat} (hB : Below W.heap.size W w) (hy : Bytes W A n) (hn : n ≤ 1048576) :
    Calls Tryd.prog 21 #[.slice A n c] w fun e w' => ∃ (v : Sv) (l : List Factor), e = .returned (.slice v.A v.n v.c) ∧ isFL l = true ∧ 0 < l.length ∧ (∀ f ∈ l, f.id ≤ 2999) ∧ OwF w' v l ∧ Fresh w.heap.size w' (fpF v) ∧ Below w.heap.size w w' := by
  have HB := Lib.hid hB
  have hy' := Lib.hid hy
  clear hB hy
  go_enter Tryd.func21, Tryd.ntmps21
  go_wp2_with fail
  refine Calls.mono (l01New_c (c := c) HB.out hy'.out hn) ?_
  rintro e w1 ⟨b, rfl, hb, hc1, hb1⟩
  have HC := Lib.hid hc1
  have hs := hb1.size
  have B1 := Lib.hid hb1
  clear hc1 hb1
  go_wp2_with fail
  refine Calls.mono (l28List_c hy'.out hn HC.out) ?_
  rintro e w2 ⟨v, l, rfl, hfl, hpos, hids, ho, hc2, hu2⟩
  have IDS := Lib.hid hids
  have FL := Lib.hid hfl
  have PO := Lib.hid hpos
  have B2 := Lib.hid (bUpd1 (W := w) B1.out hu2 hb)
  clear hfl hpos hids hc2 hu2
  go_wp2_with fail
  go_ret
  exact ⟨v, l, rfl, FL.out, PO.out, IDS.out, ho.zero, Fresh.rebase (Fresh.obl_ ho) hs, B2.out⟩
theorem MakeFactors_c {W w : World} {A : Option Addr} {n c : Nat} (hB : Below W.heap.size W w) (hy : Bytes W A n) (hn : n ≤ 1048576) :
    Calls Tryd.prog 10 #[.slice A n c] w fun e w' => ∃ (v : Sv) (l : List Factor), e = .returned (.slice v.A v.n v.c) ∧ l.length ≤ 8 ∧ GOK l ∧ OwF w' v l ∧ Fresh w.heap.size w' (fpF v) ∧ Below w.heap.size w w' := by
  have HB := Lib.hid hB
  have hy' := Lib.hid hy
  clear hB hy
  go_enter Tryd.func10, Tryd.ntmps10
  go_wp2_with fail
  refine Calls.mono (l01New_c (c := c) HB.out hy'.out hn) ?_
  rintro e w1 ⟨b, rfl, hb, hc1, hb1⟩
  have HC := Lib.hid hc1
  have hs := hb1.size
  have B1 := Lib.hid hb1
  clear hc1 hb1
  go_wp2_with fail
  refine Calls.mono (l16List_c hy'.out hn HC.out) ?_
  rintro e w2 ⟨v, l, rfl, hlen, hgok, ho, hc2, hu2⟩
  have FL := Lib.hid hgok
  have B2 := Lib.hid (bUpd1 (W := w) B1.out hu2 hb)
  clear hgok hc2 hu2
  go_wp2_with fail
  go_ret
  exact ⟨v, l, rfl, hlen, FL.out, ho.zero, Fresh.rebase (Fresh.obl_ ho) hs, B2.out⟩
end Go.Proofs.YtebcdjpddoaajaaDoor

/- Factors: one more factor behind a robot's list, and out again. Plain. -/
namespace Go.Proofs.YtebcdjpddoaajaaDoor
open Go.RowKit
set_option linter.unusedVariables false
set_option linter.unusedSimpArgs false
set_option maxRecDepth 100000
theorem GOK.ids {l : List Factor} (h : GOK l) (h8 : l.length ≤ 8) : ∀ g ∈ l, g.id < 77 := by
  intro g hg
  obtain ⟨i, hi⟩ := List.getElem?_of_mem hg
  have := h.2.2 i g hi
  have := (List.getElem?_eq_some_iff.1 hi).1
  omega
theorem tw_all {p : Factor → Bool} : ∀ (l : List Factor), (∀ g ∈ l, p g = true) → l.takeWhile p = l
  | [], _ => rfl
  | a :: l, h => by rw [List.takeWhile_cons_of_pos (h a (by simp)), tw_all l fun g hg => h g (by simp [hg])]
theorem ins_end {l : List Factor} {f : Factor} (h : ∀ g ∈ l, g.id < f.id) : insF l f = l ++ [f] := by
  have e : l.takeWhile (below f) = l := by
    exact tw_all l fun g hg => decide_eq_true (h g hg)
  unfold insF insAt
  rw [e, List.take_of_length_le (Nat.le_refl _), List.drop_of_length_le (Nat.le_refl _)]
theorem no_id {l : List Factor} {i : Int} (h : ∀ g ∈ l, g.id < i) : hasId l i = false := by
  cases hh : hasId l i with
  | false => rfl
  | true =>
    obtain ⟨g, hg, he⟩ := hasId_iff.1 hh
    have := h g hg
    omega
theorem fct_no {l : List Factor} {f : Factor} (hl : isFL l = true) (h8 : l.length ≤ 8) (hi : ∀ g ∈ l, g.id < f.id) (hv : vldFactor f = true) (hn : (addF l f).2 = false) : 10 ≤ (namesOf (l ++ [f])).length := by
  rcases (rej_iff hl hv).1 hn with h | h | h
  · rw [no_id hi] at h; cases h
  · omega
  · rw [ins_end hi] at h; exact h
theorem fct_yes {l : List Factor} {f : Factor} (hi : ∀ g ∈ l, g.id < f.id) (hn : (addF l f).2 = true) : (addF l f).1 = l ++ [f] ∧ isFL (l ++ [f]) = true := by
  obtain ⟨h1, h2, _⟩ := addF_cases hn
  rw [ins_end hi] at h1 h2
  exact ⟨h1, h2⟩
theorem rem_end {l : List Factor} {f : Factor} (hi : ∀ g ∈ l, g.id < f.id) (hl : isFL (l ++ [f]) = true) : removeF (l ++ [f]) f.id = (l, true) := by
  unfold removeF
  have hh : hasId (l ++ [f]) f.id = true := hasId_iff.2 ⟨f, by simp, rfl⟩
  rw [hl, hh, if_pos (by rfl), List.filter_append]
  have e : l.filter (fun g => g.id != f.id) = l := by
    rw [List.filter_eq_self]
    intro g hg
    have := hi g hg
    simp; omega
  rw [e]; simp
theorem ascL_ids : ∀ (l : List Factor) (i : Int) (p : Option Int), (∀ f ∈ l, vldFactor f = true) → (∀ (k : Nat) (f : Factor), l[k]? = some f → f.id = i + (k : Int)) → (∀ q, p = some q → q < i) → ascL l p = true
  | [], _, _, _, _, _ => rfl
  | f :: l, i, p, hv, hi, hp => by
    have h0 := hi 0 f rfl
    have ih := ascL_ids l (i + 1) (some f.id) (fun g hg => hv g (by simp [hg])) (fun k g hg => by
      have := hi (k + 1) g (by simpa using hg)
      push_cast at this
      omega) (fun q hq => by
      injection hq with hq
      omega)
    cases p with
    | none => simp only [ascL, hv f (by simp), ih, Bool.and_true]
    | some q =>
      have := hp q rfl
      have hd : decide (q < f.id) = true := decide_eq_true (by omega)
      simp only [ascL, hv f (by simp), ih, hd, Bool.and_true]
theorem GOK.fl {l : List Factor} (h : GOK l) (h8 : l.length ≤ 8) : isFL l = true := by
  unfold isFL
  have h1 := FOK.names h.2.1
  have h2 := ascL_ids l 1 none (fun f hf => (h.2.1 f hf).1) (fun k f hf => by have := h.2.2 k f hf; omega) (by simp)
  simp only [Bool.and_eq_true, decide_eq_true_eq]
  exact ⟨by omega, h2, by omega⟩
end Go.Proofs.YtebcdjpddoaajaaDoor

/- The bundles of all robots hold all factors: merged one behind the other they give the list. Plain. -/
namespace Go.Proofs.YtebcdjpddoaajaaDoor
open Go.RowKit
set_option linter.unusedVariables false
set_option linter.unusedSimpArgs false
set_option maxRecDepth 100000
theorem asc_left : ∀ (P R : List Factor) (p : Option Int), ascL (P ++ R) p = true → ascL P p = true
  | [], R, p, _ => rfl
  | a :: P, R, p, h => by
    simp only [List.cons_append, ascL, Bool.and_eq_true] at h ⊢
    exact ⟨h.1, h.2.1, asc_left P R _ h.2.2⟩
theorem asc_lt : ∀ (P : List Factor) (f : Factor) (R : List Factor) (p : Option Int), ascL (P ++ f :: R) p = true → ∀ g ∈ P, g.id < f.id
  | [], f, R, p, _, g, hg => by simp at hg
  | a :: P, f, R, p, h, g, hg => by
    have h2 := asc_tail h
    rcases List.mem_cons.1 hg with rfl | hg
    · exact asc_gt _ _ h2 f (by simp)
    · exact asc_lt P f R _ h2 g hg
theorem fl_left {P R : List Factor} (h : isFL (P ++ R) = true) : isFL P = true := by
  have hn := names_sub (l := P) (m := P ++ R) (fun f hf => by simp [hf])
  unfold isFL at h ⊢
  simp only [Bool.and_eq_true, decide_eq_true_eq, List.length_append] at h ⊢
  exact ⟨by omega, asc_left _ _ _ h.2.1, by omega⟩
theorem merge_pre : ∀ (fs P a : List Factor), isFL (P ++ fs) = true → fs.foldl mergeStep (P, a) = (P ++ fs, a ++ fs)
  | [], P, a, _ => by simp
  | f :: fs, P, a, h => by
    have e : P ++ f :: fs = (P ++ [f]) ++ fs := by simp
    have h1 : isFL (P ++ [f]) = true := fl_left (R := fs) (by rw [← e]; exact h)
    have hP : isFL P = true := fl_left h
    have hlt := asc_lt P f fs none (by unfold isFL at h; simp only [Bool.and_eq_true] at h; exact h.2.1)
    have hi := ins_end hlt
    have ha : addF P f = (P ++ [f], true) := by unfold addF; rw [hi, hP, h1]; rfl
    have hs : mergeStep (P, a) f = (P ++ [f], a ++ [f]) := by unfold mergeStep; simp only [ha, if_true]
    rw [List.foldl_cons, hs, merge_pre fs (P ++ [f]) (a ++ [f]) (by rw [← e]; exact h)]
    simp
def rob (r : Int) (l : List Factor) : List Factor := l.filter fun f => robotOf f.id == r
/-- the bundles so far, of the factors D -/
def BdInv (r : Int) (D : List Factor) (bs : List Bundle) : Prop := bs.flatMap (·.factors) = rob r D ∧ ∀ b ∈ bs, b.robot = r ∧ 1 ≤ b.factors.length ∧ b.factors.length ≤ 4
theorem BdInv.step {r : Int} {D : List Factor} {bs : List Bundle} (h : BdInv r D bs) (f : Factor) : BdInv r (D ++ [f]) (bunF r bs f) := by
  obtain ⟨h1, h2⟩ := h
  unfold bunF
  by_cases hr : robotOf f.id = r
  · have hf : rob r (D ++ [f]) = rob r D ++ [f] := by unfold rob; rw [List.filter_append]; simp [hr]
    rw [if_pos hr]
    unfold putB
    cases hl : bs.getLast? with
    | none =>
      have hb : bs = [] := List.getLast?_eq_none_iff.1 hl
      subst hb
      refine ⟨by rw [hf, ← h1]; rfl, fun b hb => ?_⟩
      simp only [List.mem_singleton] at hb
      subst hb; exact ⟨rfl, Nat.le_refl _, by show 1 ≤ 4; omega⟩
    | some b =>
      have hbm : b ∈ bs := List.mem_of_getLast? hl
      have hne : bs ≠ [] := by intro e; rw [e] at hbm; simp at hbm
      have hlast : bs.getLast hne = b := by rw [List.getLast?_eq_some_getLast hne] at hl; exact Option.some.inj hl
      have hsp : bs = bs.dropLast ++ [b] := by rw [← hlast]; exact (List.dropLast_concat_getLast hne).symm
      simp only
      split
      · rename_i h4
        refine ⟨?_, fun c hc => ?_⟩
        · rw [hf, ← h1]
          conv => rhs; rw [hsp]
          simp [List.flatMap_append]
        · rcases List.mem_append.1 hc with hc | hc
          · exact h2 c (List.dropLast_subset _ hc)
          · simp only [List.mem_singleton] at hc
            subst hc
            have := h2 b hbm
            exact ⟨this.1, by simp, by simp; omega⟩
      · refine ⟨by rw [hf, ← h1]; simp [List.flatMap_append], fun c hc => ?_⟩
        rcases List.mem_append.1 hc with hc | hc
        · exact h2 c hc
        · simp only [List.mem_singleton] at hc
          subst hc; exact ⟨rfl, Nat.le_refl _, by show 1 ≤ 4; omega⟩
  · rw [if_neg hr]
    refine ⟨?_, h2⟩
    rw [h1]; unfold rob; rw [List.filter_append]; simp [hr]
theorem BdInv.fold : ∀ (l : List Factor) (r : Int) (D : List Factor) (bs : List Bundle), BdInv r D bs → BdInv r (D ++ l) (l.foldl (bunF r) bs)
  | [], r, D, bs, h => by simpa using h
  | f :: l, r, D, bs, h => by
    have := BdInv.fold l r (D ++ [f]) _ (h.step f)
    simpa using this
theorem asc_pw : ∀ (l : List Factor) (p : Option Int), ascL l p = true → l.Pairwise (fun f g => f.id < g.id)
  | [], _, _ => List.Pairwise.nil
  | a :: l, p, h => List.Pairwise.cons (asc_gt l a.id (asc_tail h)) (asc_pw l _ (asc_tail h))
theorem bunL_pw : ∀ (l : List Factor) (r : Int) (p : Option Int), (∀ f ∈ l, vldFactor f = true) → (∀ f ∈ l, robotOf f.id = r) → l.Pairwise (fun f g => f.id < g.id) → (∀ q, p = some q → ∀ f ∈ l, q < f.id) → bunL r l p = true
  | [], _, _, _, _, _, _ => rfl
  | a :: l, r, p, hv, hr, hp, hq => by
    obtain ⟨h1, h2⟩ := List.pairwise_cons.1 hp
    have ih := bunL_pw l r (some a.id) (fun f hf => hv f (by simp [hf])) (fun f hf => hr f (by simp [hf])) h2 (fun q e f hf => by injection e with e; subst e; exact h1 f hf)
    simp only [bunL, hv a (by simp), hr a (by simp), ih, beq_self_eq_true, Bool.true_and, Bool.and_true]
    cases p with
    | none => rfl
    | some q => exact decide_eq_true (hq q rfl a (by simp))
theorem fl_asc {l : List Factor} (h : isFL l = true) : ascL l none = true := by
  unfold isFL at h; simp only [Bool.and_eq_true] at h; exact h.2.1
/-- the bundles of a valid list: valid, and their factors are those of the robot -/
theorem bdl_ok {l : List Factor} {r : Int} (h : isFL l = true) (h0 : 0 ≤ r) (h2 : r ≤ 2) : (bundlesOf l r).flatMap (·.factors) = rob r l ∧ ∀ b ∈ bundlesOf l r, b.robot = r ∧ isBundle r b.factors = true := by
  have hi := BdInv.fold l r [] [] ⟨rfl, by simp⟩
  rw [List.nil_append] at hi
  have hin : inR r 0 2 = true := inR_iff.2 ⟨h0, h2⟩
  have e : bundlesOf l r = l.foldl (bunF r) [] := by unfold bundlesOf; rw [h, hin]; rfl
  rw [← e] at hi
  refine ⟨hi.1, fun b hb => ?_⟩
  obtain ⟨q1, q2, q3⟩ := hi.2 b hb
  have hsub : b.factors.Sublist (rob r l) := by rw [← hi.1]; exact List.sublist_flatten_of_mem (List.mem_map.2 ⟨b, hb, rfl⟩) |> fun h => by simpa [List.flatMap] using h
  have hsl : b.factors.Sublist l := hsub.trans List.filter_sublist
  refine ⟨q1, ?_⟩
  have hb := bunL_pw b.factors r none (fun f hf => isFL_vld h f (hsl.mem hf)) (fun f hf => by
    have := hsub.mem hf
    unfold rob at this
    simpa using (List.mem_filter.1 this).2) ((asc_pw l none (fl_asc h)).sublist hsl) (by simp)
  unfold isBundle
  rw [hin, hb, inR_iff.2 ⟨by omega, by omega⟩]; rfl
theorem rob_ids : ∀ (l : List Factor), l.Pairwise (fun f g => f.id < g.id) → (∀ f ∈ l, 0 ≤ f.id ∧ f.id ≤ 2999) → rob 0 l ++ rob 1 l ++ rob 2 l = l
  | [], _, _ => rfl
  | a :: l, hp, hb => by
    obtain ⟨h1, h2⟩ := List.pairwise_cons.1 hp
    have ih := rob_ids l h2 fun f hf => hb f (by simp [hf])
    have ha := hb a (by simp)
    have hra : robotOf a.id = a.id / 1000 := robotOf_yes ha
    have hrl : ∀ f ∈ l, robotOf f.id = f.id / 1000 := fun f hf => robotOf_yes (hb f (by simp [hf]))
    have emp : ∀ r : Int, r < a.id / 1000 → rob r l = [] := fun r hr => by
      unfold rob
      rw [List.filter_eq_nil_iff]
      intro f hf
      have := h1 f hf
      rw [hrl f hf]
      simp; omega
    have step : ∀ r : Int, rob r (a :: l) = if a.id / 1000 = r then a :: rob r l else rob r l := fun r => by
      unfold rob
      rw [List.filter_cons, hra]
      by_cases h : a.id / 1000 = r <;> simp [h]
    rw [step 0, step 1, step 2]
    obtain h | h | h : a.id / 1000 = 0 ∨ a.id / 1000 = 1 ∨ a.id / 1000 = 2 := by omega
    · rw [if_pos h, if_neg (by omega), if_neg (by omega)]
      simp only [List.cons_append, ih]
    · rw [if_neg (by omega), if_pos h, if_neg (by omega), emp 0 (by omega)]
      rw [emp 0 (by omega)] at ih
      simp only [List.nil_append, List.cons_append] at ih ⊢
      rw [ih]
    · rw [if_neg (by omega), if_neg (by omega), if_pos h, emp 0 (by omega), emp 1 (by omega)]
      rw [emp 0 (by omega), emp 1 (by omega)] at ih
      simp only [List.nil_append] at ih ⊢
      rw [ih]
end Go.Proofs.YtebcdjpddoaajaaDoor

/- Teams, lists of channels, lists of bundles: how they lie in memory; what the laws' helpers count and mark on them. No program in sight but the types' numbers. -/
namespace Go.Proofs.YtebcdjpddoaajaaDoor
open Go.RowKit
set_option linter.unusedVariables false
set_option linter.unusedSimpArgs false
set_option maxHeartbeats 400000
/-! ### lists whose elements are counted and marked one behind the other -/
section
variable {α : Type} (cnt : α → Nat) (mk : Int → α → α)
def mkAll : Int → List α → List α
  | _, [] => []
  | k, x :: l => mk k x :: mkAll (k + cnt x) l
theorem mkAll_len : ∀ (k : Int) (l : List α), (mkAll cnt mk k l).length = l.length
  | _, [] => rfl
  | k, x :: l => by simp [mkAll, mkAll_len _ l]
theorem mkAll_append : ∀ (k : Int) (l m : List α), mkAll cnt mk k (l ++ m) = mkAll cnt mk k l ++ mkAll cnt mk (k + sumBulk cnt l) m
  | k, [], m => by simp [mkAll, sumBulk]
  | k, x :: l, m => by
    have e : k + (cnt x : Int) + (sumBulk cnt l : Int) = k + ((cnt x + sumBulk cnt l : Nat) : Int) := by push_cast; omega
    simp only [List.cons_append, mkAll, sumBulk, mkAll_append _ l m, e]
theorem mkAll_at : ∀ (k : Int) (l : List α) (i : Nat) (x : α), l[i]? = some x → (mkAll cnt mk k l)[i]? = some (mk (k + sumBulk cnt (l.take i)) x)
  | k, y :: l, 0, x, h => by simp only [List.getElem?_cons_zero, Option.some.injEq] at h; subst h; simp [mkAll, sumBulk]
  | k, y :: l, i + 1, x, h => by
    have e : k + (cnt y : Int) + (sumBulk cnt (l.take i) : Int) = k + ((cnt y + sumBulk cnt (l.take i) : Nat) : Int) := by push_cast; omega
    simp only [List.getElem?_cons_succ] at h
    simp only [mkAll, List.getElem?_cons_succ, List.take_succ_cons, sumBulk, mkAll_at _ l i x h, e]
/-- the first i elements are marked -/
def MkU (k : Int) (l : List α) (i : Nat) : List α := mkAll cnt mk k (l.take i) ++ l.drop i
theorem MkU.zero (k : Int) (l : List α) : MkU cnt mk k l 0 = l := by simp [MkU, mkAll]
theorem MkU.full {k : Int} {l : List α} {i n : Nat} (hl : Hid (l.length = n)) (hi : ¬ i < n) : MkU cnt mk k l i = mkAll cnt mk k l := by
  have : l.length = n := hl
  unfold MkU
  rw [List.take_of_length_le (by omega), List.drop_eq_nil_of_le (by omega), List.append_nil]
theorem MkU.at_ {k : Int} {l : List α} {i : Nat} {x : α} (hx : Hid (l[i]? = some x)) : (MkU cnt mk k l i)[i]? = some x := by
  have h : l[i]? = some x := hx
  have hi := (List.getElem?_eq_some_iff.1 h).1
  unfold MkU
  rw [List.getElem?_append_right (by simp [mkAll_len]; omega)]
  simp [mkAll_len, Nat.min_eq_left (Nat.le_of_lt hi), h]
theorem MkU.next {k : Int} {l : List α} {i : Nat} {x : α} (hx : Hid (l[i]? = some x)) : (MkU cnt mk k l i).set i (mk (k + sumBulk cnt (l.take i)) x) = MkU cnt mk k l (i + 1) := by
  have h : l[i]? = some x := hx
  obtain ⟨hi, rfl⟩ := List.getElem?_eq_some_iff.1 h
  unfold MkU
  have e : (mkAll cnt mk k (l.take i)).length = i := by simp [mkAll_len]; omega
  rw [List.set_append_right _ _ (by omega), e, Nat.sub_self, List.take_succ_eq_append_getElem hi, mkAll_append, List.append_assoc]
  congr 1
  rw [List.drop_eq_getElem_cons hi, List.set_cons_zero]
  rfl
end
theorem sum_take {α : Type} {c : α → Nat} {l : List α} {i : Nat} {x : α} (hx : Hid (l[i]? = some x)) : sumBulk c (l.take (i + 1)) = sumBulk c (l.take i) + c x := by
  have h : l[i]? = some x := hx
  obtain ⟨hi, rfl⟩ := List.getElem?_eq_some_iff.1 h
  rw [List.take_succ_eq_append_getElem hi]
  generalize l.take i = m
  generalize l[i] = x
  induction m with
  | nil => simp [sumBulk]
  | cons y m ih => simp only [List.cons_append, sumBulk, ih]; omega
theorem sum_take_le {α : Type} {c : α → Nat} : ∀ {l : List α} {i : Nat}, sumBulk c (l.take i) ≤ sumBulk c l
  | [], i => by simp [sumBulk]
  | x :: l, 0 => by simp [sumBulk]
  | x :: l, i + 1 => by have := sum_take_le (c := c) (l := l) (i := i); simp only [List.take_succ_cons, sumBulk]; omega
theorem sum_full {α : Type} {c : α → Nat} {l : List α} {i n : Nat} (hl : Hid (l.length = n)) (hi : ¬ i < n) : sumBulk c (l.take i) = sumBulk c l := by
  have : l.length = n := hl
  rw [List.take_of_length_le (by omega)]
theorem sum_mono {α : Type} {c d : α → Nat} (h : ∀ x, c x ≤ d x) : ∀ l : List α, sumBulk c l ≤ sumBulk d l
  | [] => Nat.le_refl _
  | x :: l => by have := sum_mono h l; have := h x; simp only [sumBulk]; omega
theorem sum_mul {α : Type} {c : α → Nat} (m : Nat) : ∀ l : List α, sumBulk (fun x => m * c x) l = m * sumBulk c l
  | [] => rfl
  | x :: l => by simp only [sumBulk, sum_mul m l, Nat.mul_add]
theorem sum_one {α : Type} {c : α → Nat} (h : ∀ x, 1 ≤ c x) : ∀ l : List α, l.length ≤ sumBulk c l
  | [] => Nat.le_refl _
  | x :: l => by have := sum_one h l; have := h x; simp only [sumBulk, List.length_cons]; omega
/-! ### a slice that is filled with elements that have memory of their own -/
section
variable {α : Type} {K : World → List Nat → List Value → α → Prop}
def FillK (K : World → List Nat → List Value → α → Prop) (z : List Value) (e sz : Nat) (a wr : World) (n : Nat) (l : List α) (k : Nat) : Prop :=
  ∃ dcs fss, Own wr a.heap.size e sz (some ⟨a.heap.size, 0, none⟩) n n (dcs ++ List.replicate (n - k) z) ∧ dcs.length = k ∧ Each (K wr) fss dcs (l.take k) ∧ Fresh (a.heap.size + 1) wr fss.flatten
theorem FillK.zero {z : List Value} {e sz n : Nat} {a w1 : World} {l : List α} (h : Own w1 a.heap.size e sz (some ⟨a.heap.size, 0, none⟩) n n (List.replicate n z)) : FillK K z e sz a w1 n l 0 :=
  ⟨[], [], by simpa using h, rfl, by simp [Each], Fresh.nil _ _⟩
theorem FillK.step (hK : Loc K) {z : List Value} {e sz n k : Nat} {a wr w2 : World} {l : List α} {x : α} {f : List Nat} {cs : List Value} (h : FillK K z e sz a wr n l k) (hx : Hid (l[k]? = some x)) (hk : k < n) (hb : Below wr.heap.size wr w2) (hk2 : K w2 f cs x) (hf : Fresh wr.heap.size w2 f) :
    ∃ css, Own w2 a.heap.size e sz (some ⟨a.heap.size, 0, none⟩) n n css ∧ ∀ w3, Own w3 a.heap.size e sz (some ⟨a.heap.size, 0, none⟩) n n (css.set k cs) → w2.grownBy w3 (some a.heap.size) → FillK K z e sz a w3 n l (k + 1) := by
  obtain ⟨dcs, fss, h1, h2, h3, h4⟩ := h
  have hlo : a.heap.size < wr.heap.size := (h1.lt a.heap.size rfl).2
  refine ⟨_, h1.below hb, fun w3 ho hg => ⟨dcs ++ [cs], fss ++ [f], ?_, by simp [h2], ?_, ?_⟩⟩
  · have e1 : n - k = (n - (k + 1)) + 1 := by omega
    rw [e1, List.replicate_succ, List.set_append_right _ _ (by omega), h2, Nat.sub_self, List.set_cons_zero] at ho
    simpa using ho
  · have h' : l[k]? = some x := hx
    obtain ⟨hkl, rfl⟩ := List.getElem?_eq_some_iff.1 h'
    rw [List.take_succ_eq_append_getElem hkl]
    refine ((h3.keep_ hK fun q hq => ?_).append (Each.one (hK.keep hk2 fun q hq => ?_)))
    · have := h4.hi q hq; have := h4.lo q hq
      exact (hg.block q (by have := hb.size; omega) (by simp; omega)).trans (hb.block q (h4.hi q hq))
    · have := hf.lo q hq
      exact hg.block q (hf.hi q hq) (by simp; omega)
  · rw [List.flatten_append, List.flatten_cons, List.flatten_nil, List.append_nil]
    exact (h4.then_ hf (by omega) (Nat.le_refl _) hb.size).grow hg.size
theorem FillK.full {z : List Value} {e sz n k : Nat} {a wr : World} {l : List α} (h : FillK K z e sz a wr n l k) (hl : Hid (l.length = n)) (hk : ¬ k < n) :
    ∃ fs, OwSl K wr fs e sz (some ⟨a.heap.size, 0, none⟩) n n l ∧ Fresh a.heap.size wr fs := by
  obtain ⟨dcs, fss, h1, h2, h3, h4⟩ := h
  have hl' : l.length = n := hl
  have e1 : n - k = 0 := by omega
  rw [e1, List.replicate_zero, List.append_nil] at h1
  rw [List.take_of_length_le (by omega)] at h3
  have hb := (h1.lt a.heap.size rfl).2
  refine ⟨obl (some ⟨a.heap.size, 0, none⟩) ++ fss.flatten, ⟨dcs, fss, h1.zero, h3, rfl⟩, ?_⟩
  refine Fresh.append (Fresh.obl_ h1) h4 (by omega) fun g hg => ?_
  simp [obl, ob] at hg; omega
end
/-! ### robots -/
def Bundle.num (b : Bundle) : Nat := 1 + b.factors.length
def Bundle.cnt (b : Bundle) : Nat := 1 + cntF b.factors
def Bundle.mk_ (k : Int) (b : Bundle) : Bundle := ⟨k, mkF (k + 1) b.factors⟩
def RdBe (w : World) (cs : List Value) (b : Bundle) : Prop := ∃ v : Sv, cs = [.int .i64 b.robot, .slice v.A v.n v.c] ∧ RdF w v b.factors ∧ lenF v
theorem RdBe.below {w w' : World} {cs : List Value} {r : Bundle} (h : RdBe w cs r) (hb : Below w.heap.size w w') : RdBe w' cs r := by
  obtain ⟨v, h1, h2, h3⟩ := h
  exact ⟨v, h1, h2.below hb, h3⟩
def KBe (w : World) (f : List Nat) (cs : List Value) (b : Bundle) : Prop := ∃ v : Sv, cs = [.int .i64 b.robot, .slice v.A v.n v.c] ∧ OwF w v b.factors ∧ f = fpF v
theorem loc_Be : Loc KBe := ⟨fun ⟨v, h1, h2, h3⟩ hk => ⟨v, h1, h2.keep (by rw [← h3]; exact hk), h3⟩, fun ⟨v, h1, h2, h3⟩ k hk => h2.lt k (by rw [← h3]; exact hk)⟩
theorem KBe.rd {w : World} {f : List Nat} {cs : List Value} {r : Bundle} (h : KBe w f cs r) : RdBe w cs r := by
  obtain ⟨v, h1, h2, _⟩ := h
  exact ⟨v, h1, h2.rd, by have := h2.own.nc; unfold lenF; omega⟩
theorem apart1 {g : Nat} {f : List Nat} (h : g ∉ f) : ∀ q ∈ obl (some ⟨g, 0, none⟩), q ∉ f := fun q hq hm => by
  simp [obl, ob] at hq; subst hq; exact h hm
theorem not1 {g : Nat} {f : List Nat} (h : g ∉ f) : ∀ q ∈ f, q ∉ [g] := fun q hq hm => by simp at hm; subst hm; exact h hq
theorem obl_nd (A : Option Addr) : (obl A).Nodup := by unfold obl; cases ob A <;> simp
theorem at_of {α : Type} {l : List α} {n k : Nat} (hl : Hid (l.length = n)) (hk : k < n) : ∃ x, Hid (l[k]? = some x) := ⟨_, List.getElem?_eq_getElem (by have := hl.out; omega)⟩
end Go.Proofs.YtebcdjpddoaajaaDoor

/- Factors are added: what the reference's AddFactor answers. -/
namespace Go.Proofs.YtebcdjpddoaajaaDoor
open Go.RowKit
set_option linter.unusedVariables false
set_option linter.unusedSimpArgs false
set_option maxHeartbeats 2000000
set_option maxRecDepth 100000
theorem made_any (w : World) (B e sz : Nat) {a : Nat} (h : a = w.heap.size) (hB : B ≤ w.heap.size) : Own (w.alloc (.cells #[] e)) B e sz (some ⟨a, 0, none⟩) 0 0 [] := by subst h; exact Own.made0 w e sz hB
/-- an older slice behind three appends to a newer one -/
theorem same_kept {wr X w3 w4 w5 : World} {B e sz n c : Nat} {A : Option Addr} {css : List (List Value)} {r1 r2 r3 : Option Nat} {o : Obj} (h : Own wr B e sz A n c css) (hx : Below wr.heap.size wr X)
    (g1 : X.grownBy w3 r1) (g2 : (w3.alloc o).grownBy w4 r2) (g3 : w4.grownBy w5 r3) (h1 : ∀ q, r1 = some q → wr.heap.size ≤ q) (h2 : ∀ q, r2 = some q → wr.heap.size ≤ q) (h3 : ∀ q, r3 = some q → wr.heap.size ≤ q) : Own w5 B e sz A n c css := by
  have hb : Below wr.heap.size wr w5 := bGrown (bGrown (bAlloc (bGrown hx g1 h1) _) g2 h2) g3 h3
  exact h.below hb
end Go.Proofs.YtebcdjpddoaajaaDoor
