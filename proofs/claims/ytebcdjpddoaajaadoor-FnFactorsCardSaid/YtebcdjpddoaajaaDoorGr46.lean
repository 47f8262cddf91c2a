/- Texts of this proof, one behind the other: OnceP. -/
import Derived.Test.YtebcdjpddoaajaaDoorGr11
/- What a bundle that is merged twice adds: the plain law. No program in sight. -/
namespace Go.Proofs.YtebcdjpddoaajaaDoor
open Go.RowKit
set_option linter.unusedVariables false
set_option linter.unusedSimpArgs false

theorem nodup_sub {α : Type} [DecidableEq α] : ∀ {a b : List α}, a.Nodup → (∀ x ∈ a, x ∈ b) → a.length ≤ b.length
  | [], _, _, _ => Nat.zero_le _
  | x :: a, b, hn, hs => by
    have hx : x ∈ b := hs x (by simp)
    have hn' := List.nodup_cons.1 hn
    have h1 := nodup_sub (a := a) (b := b.erase x) hn'.2 (fun y hy => (List.mem_erase_of_ne (fun e : y = x => hn'.1 (by rw [← e]; exact hy))).2 (hs y (by simp [hy])))
    rw [List.length_erase_of_mem hx] at h1
    have h2 := List.length_pos_of_mem hx
    simp only [List.length_cons]; omega
def keys (acc : List ByteArray) : List (List UInt8) := acc.map ByteArray.toList
theorem keys_has (acc : List ByteArray) (s : ByteArray) : hasStr acc s = true ↔ s.toList ∈ keys acc := by
  unfold hasStr keys
  simp only [List.any_eq_true, beq_iff_eq, List.mem_map]
theorem keys_add (acc : List ByteArray) (s : ByteArray) (hn : (keys acc).Nodup) : (keys (addNm acc s)).Nodup ∧ ∀ k, k ∈ keys (addNm acc s) ↔ (k ∈ keys acc ∨ (k ≠ [] ∧ k = s.toList)) := by
  unfold addNm
  split
  · rename_i h
    refine ⟨hn, fun k => ⟨.inl, fun hk => ?_⟩⟩
    rcases hk with hk | ⟨h1, rfl⟩
    · exact hk
    · simp only [Bool.or_eq_true, List.isEmpty_iff] at h
      rcases h with h | h
      · exact absurd h h1
      · exact (keys_has acc s).1 h
  · rename_i h
    simp only [Bool.or_eq_true, List.isEmpty_iff, not_or] at h
    have hs : s.toList ∉ keys acc := fun hm => h.2 ((keys_has acc s).2 hm)
    have e : keys (acc ++ [s]) = keys acc ++ [s.toList] := by simp [keys]
    rw [e]
    refine ⟨List.nodup_append.2 ⟨hn, by simp, fun a ha b hb => by simp at hb; subst hb; exact fun e => hs (e ▸ ha)⟩, fun k => ?_⟩
    simp only [List.mem_append, List.mem_singleton]
    constructor
    · rintro (hk | rfl)
      · exact .inl hk
      · exact .inr ⟨h.1, rfl⟩
    · rintro (hk | ⟨_, rfl⟩)
      · exact .inl hk
      · exact .inr rfl
theorem keys_names : ∀ (l : List Factor) (acc : List ByteArray), (keys acc).Nodup → (keys (l.foldl namesF acc)).Nodup ∧ ∀ k, k ∈ keys (l.foldl namesF acc) ↔ (k ∈ keys acc ∨ (k ≠ [] ∧ ∃ f ∈ l, k = f.frm.toList ∨ k = f.to.toList))
  | [], acc, hn => ⟨hn, fun k => by simp⟩
  | f :: l, acc, hn => by
    have h1 := keys_add acc f.frm hn
    have h2 := keys_add (addNm acc f.frm) f.to h1.1
    have h3 := keys_names l (namesF acc f) h2.1
    refine ⟨h3.1, fun k => ?_⟩
    rw [List.foldl_cons, h3.2]
    unfold namesF
    rw [h2.2, h1.2]
    simp only [List.mem_cons, exists_eq_or_imp]
    constructor
    · rintro (((h | ⟨h, h'⟩) | ⟨h, h'⟩) | ⟨h, h'⟩)
      · exact .inl h
      · exact .inr ⟨h, .inl (.inl h')⟩
      · exact .inr ⟨h, .inl (.inr h')⟩
      · exact .inr ⟨h, .inr h'⟩
    · rintro (h | ⟨h, (h' | h') | h'⟩)
      · exact .inl (.inl (.inl h))
      · exact .inl (.inl (.inr ⟨h, h'⟩))
      · exact .inl (.inr ⟨h, h'⟩)
      · exact .inr ⟨h, h'⟩
theorem names_keys (l : List Factor) : (keys (namesOf l)).Nodup ∧ ∀ k, k ∈ keys (namesOf l) ↔ (k ≠ [] ∧ ∃ f ∈ l, k = f.frm.toList ∨ k = f.to.toList) := by
  have h := keys_names l [] (by simp [keys])
  refine ⟨h.1, fun k => ?_⟩
  unfold namesOf
  rw [h.2]
  simp [keys]
theorem keys_len (acc : List ByteArray) : (keys acc).length = acc.length := by simp [keys]
/-- names out of a set -/
theorem names_in {l : List Factor} {S : List (List UInt8)} (h : ∀ f ∈ l, (f.frm.toList = [] ∨ f.frm.toList ∈ S) ∧ (f.to.toList = [] ∨ f.to.toList ∈ S)) : (namesOf l).length ≤ S.length := by
  rw [← keys_len]
  refine nodup_sub (names_keys l).1 fun k hk => ?_
  obtain ⟨h0, f, hf, hk⟩ := ((names_keys l).2 k).1 hk
  rcases hk with rfl | rfl
  · exact (h f hf).1.resolve_left h0
  · exact (h f hf).2.resolve_left h0
theorem names_sub {l m : List Factor} (h : ∀ f ∈ l, f ∈ m) : (namesOf l).length ≤ (namesOf m).length := by
  rw [← keys_len, ← keys_len]
  refine nodup_sub (names_keys l).1 fun k hk => ?_
  obtain ⟨h0, f, hf, hk⟩ := ((names_keys l).2 k).1 hk
  exact ((names_keys m).2 k).2 ⟨h0, f, h f hf, hk⟩
theorem mem_insF {l : List Factor} {f g : Factor} : g ∈ insF l f ↔ g = f ∨ g ∈ l := by
  unfold insF
  rw [List.mem_append, List.mem_cons]
  constructor
  · rintro (h | h | h)
    · exact .inr (List.mem_of_mem_take h)
    · exact .inl h
    · exact .inr (List.mem_of_mem_drop h)
  · rintro (h | h)
    · exact .inr (.inl h)
    · rw [← List.take_append_drop (insAt l f) l] at h
      rcases List.mem_append.1 h with h | h
      · exact .inl h
      · exact .inr (.inr h)
def after (p : Option Int) (x : Int) : Bool := match p with | none => true | some q => decide (q < x)
theorem ascL_ins_ok : ∀ {l : List Factor} {f : Factor} {p : Option Int}, ascL l p = true → vldFactor f = true → hasId l f.id = false → after p f.id = true → ascL (insF l f) p = true
  | [], f, p, _, hv, _, hp => by
    rw [insF_nil]
    simp only [ascL, hv, Bool.true_and, Bool.and_true]
    exact hp
  | g :: l, f, p, ha, hv, hh, hp => by
    have hh' : (g.id == f.id) = false ∧ hasId l f.id = false := by
      unfold hasId at hh ⊢
      simpa using hh
    have hne : g.id ≠ f.id := by simpa using hh'.1
    simp only [ascL, Bool.and_eq_true] at ha
    obtain ⟨a1, a2, a3⟩ := ha
    by_cases hlt : g.id < f.id
    · rw [insF_cons_lt hlt]
      simp only [ascL, Bool.and_eq_true]
      exact ⟨a1, a2, ascL_ins_ok a3 hv hh'.2 (by simpa [after] using hlt)⟩
    · rw [insF_cons_ge hlt]
      simp only [ascL, Bool.and_eq_true]
      exact ⟨hv, hp, a1, by simp; omega, a3⟩
theorem hasId_iff {l : List Factor} {id : Int} : hasId l id = true ↔ ∃ f ∈ l, f.id = id := by
  unfold hasId
  simp only [List.any_eq_true, beq_iff_eq]
/-- why a factor is not added -/
theorem rej_iff {l : List Factor} {f : Factor} (h : isFL l = true) (hv : vldFactor f = true) : (addF l f).2 = false ↔ (hasId l f.id = true ∨ 40 ≤ l.length ∨ 10 ≤ (namesOf (insF l f)).length) := by
  constructor
  · intro hr
    cases hh : hasId l f.id with
    | true => exact .inl rfl
    | false =>
      refine .inr ?_
      have ha := ascL_ins_ok (isFL_asc h) hv hh rfl
      have hn : isFL (insF l f) = false := by
        cases hc : isFL (insF l f) with
        | false => rfl
        | true => rw [addF_yes h hc] at hr; cases hr
      unfold isFL at hn
      rw [ha, insF_len] at hn
      simp only [Bool.true_and, Bool.and_eq_false_iff, decide_eq_false_iff_not] at hn
      omega
  · rintro (hh | hh | hh)
    · rw [addF_has h hh]
    · rw [addF_bad]
      unfold isFL
      rw [insF_len]
      simp only [Bool.and_eq_false_iff, decide_eq_false_iff_not]
      exact .inl (by omega)
    · rw [addF_bad]
      unfold isFL
      simp only [Bool.and_eq_false_iff, decide_eq_false_iff_not]
      exact .inr (.inr (by omega))
theorem addF_cases {l : List Factor} {f : Factor} (h : (addF l f).2 = true) : (addF l f).1 = insF l f ∧ isFL (insF l f) = true ∧ isFL l = true := by
  unfold addF at h ⊢
  split
  · rename_i hc; simp only [Bool.and_eq_true] at hc; exact ⟨rfl, hc.2, hc.1⟩
  · rename_i hc; rw [if_neg hc] at h; cases h
theorem rej_mono {l m : List Factor} {f : Factor} (hl : isFL l = true) (hm : isFL m = true) (hv : vldFactor f = true) (hs : ∀ g ∈ l, g ∈ m) (hn : l.length ≤ m.length) (h : (addF l f).2 = false) : (addF m f).2 = false := by
  refine (rej_iff hm hv).2 ?_
  rcases (rej_iff hl hv).1 h with h | h | h
  · obtain ⟨g, hg, e⟩ := hasId_iff.1 h
    exact .inl (hasId_iff.2 ⟨g, hs g hg, e⟩)
  · exact .inr (.inl (by omega))
  · refine .inr (.inr (Nat.le_trans h (names_sub fun g hg => ?_)))
    rcases mem_insF.1 hg with rfl | hg
    · exact mem_insF.2 (.inl rfl)
    · exact mem_insF.2 (.inr (hs g hg))
/-- what a row of additions leaves -/
structure MgOut (l0 l : List Factor) (a : List Factor) (fs : List Factor) (out : List Factor × List Factor) : Prop where
  fl : isFL out.1 = true
  sub : ∀ g ∈ l, g ∈ out.1
  len : out.1.length + a.length = l.length + out.2.length
  le : l.length ≤ out.1.length
  rej : ∀ f ∈ fs, (addF out.1 f).2 = false
  mis : (missing l0 out.1).length + a.length = (missing l0 l).length + out.2.length
theorem missing_ins {l0 l : List Factor} {f : Factor} (h : hasId l0 f.id = false) : (missing l0 (insF l f)).length = (missing l0 l).length + 1 := by
  have e : (l.filter fun f => !hasId l0 f.id).length = ((l.take (insAt l f)).filter fun f => !hasId l0 f.id).length + ((l.drop (insAt l f)).filter fun f => !hasId l0 f.id).length := by
    rw [← List.length_append, ← List.filter_append, List.take_append_drop]
  unfold missing insF
  rw [List.length_map, List.length_map, e, List.filter_append, List.filter_cons, h]
  simp
  omega
theorem merge_out (l0 : List Factor) : ∀ (fs l a : List Factor), isFL l = true → (∀ g ∈ l0, g ∈ l) → (∀ f ∈ fs, vldFactor f = true) → MgOut l0 l a fs (fs.foldl mergeStep (l, a))
  | [], l, a, h, hs, _ => ⟨h, fun g hg => hg, rfl, Nat.le_refl _, fun f hf => (by cases hf), rfl⟩
  | f :: fs, l, a, h, hs, hv => by
    rw [List.foldl_cons]
    have hvf := hv f (by simp)
    cases hr : (addF l f).2 with
    | false =>
      have e : mergeStep (l, a) f = (l, a) := by simp [mergeStep, hr]
      rw [e]
      have ih := merge_out l0 fs l a h hs (fun g hg => hv g (by simp [hg]))
      refine ⟨ih.fl, ih.sub, ih.len, ih.le, fun g hg => ?_, ih.mis⟩
      rcases List.mem_cons.1 hg with rfl | hg
      · exact rej_mono h ih.fl hvf ih.sub ih.le hr
      · exact ih.rej g hg
    | true =>
      obtain ⟨e1, e2, _⟩ := addF_cases hr
      have e : mergeStep (l, a) f = (insF l f, a ++ [f]) := by simp [mergeStep, hr, e1]
      rw [e]
      have ih := merge_out l0 fs (insF l f) (a ++ [f]) e2 (fun g hg => mem_insF.2 (.inr (hs g hg))) (fun g hg => hv g (by simp [hg]))
      have hid : hasId l f.id = false := by
        cases hc : hasId l f.id with
        | false => rfl
        | true => rw [addF_has h hc] at hr; cases hr
      have hid0 : hasId l0 f.id = false := by
        cases hc : hasId l0 f.id with
        | false => rfl
        | true =>
          obtain ⟨g, hg, e⟩ := hasId_iff.1 hc
          rw [hasId_iff.2 ⟨g, hs g hg, e⟩] at hid
          cases hid
      have hl := ih.len; have hle := ih.le; have hm := ih.mis
      rw [missing_ins hid0] at hm
      rw [insF_len] at hl hle
      simp only [List.length_append, List.length_singleton] at hl hm
      refine ⟨ih.fl, fun g hg => ih.sub g (mem_insF.2 (.inr hg)), by omega, by omega, fun g hg => ?_, by omega⟩
      rcases List.mem_cons.1 hg with rfl | hg
      · refine (rej_iff ih.fl hvf).2 (.inl (hasId_iff.2 ⟨g, ih.sub g (mem_insF.2 (.inl rfl)), rfl⟩))
      · exact ih.rej g hg
theorem merge_none : ∀ (fs l a : List Factor), (∀ f ∈ fs, (addF l f).2 = false) → fs.foldl mergeStep (l, a) = (l, a)
  | [], _, _, _ => rfl
  | f :: fs, l, a, h => by
    have e : mergeStep (l, a) f = (l, a) := by simp [mergeStep, h f (by simp)]
    rw [List.foldl_cons, e]
    exact merge_none fs l a fun g hg => h g (by simp [hg])
theorem bunL_vld {r : Int} : ∀ {l : List Factor} {p : Option Int}, bunL r l p = true → ∀ f ∈ l, vldFactor f = true
  | g :: l, p, h, f, hf => by
    simp only [bunL, Bool.and_eq_true] at h
    rcases List.mem_cons.1 hf with rfl | hf
    · exact h.1
    · exact bunL_vld h.2.2.2 f hf
theorem isBundle_vld {r : Int} {l : List Factor} (h : isBundle r l = true) : ∀ f ∈ l, vldFactor f = true := by
  simp only [isBundle, Bool.and_eq_true] at h
  exact bunL_vld h.2.2
theorem same_refl (f : Factor) : f.same f = true := by simp [Factor.same]
theorem sameL_refl : ∀ l : List Factor, sameL l l = true
  | [] => rfl
  | f :: l => by simp [sameL, same_refl, sameL_refl l]
theorem missing_self (l : List Factor) : missing l l = [] := by
  unfold missing
  rw [List.filter_eq_nil_iff.2, List.map_nil]
  intro f hf
  simp [hasId_iff.2 ⟨f, hf, rfl⟩]
/-- a bundle that is merged twice -/
theorem once_law {l fs : List Factor} {r : Int} (h : isFL l = true) (hb : isBundle r fs = true) :
    isFL (mergeB l r fs).1 = true ∧ mergeB (mergeB l r fs).1 r fs = ((mergeB l r fs).1, []) ∧ (missing l (mergeB l r fs).1).length = (mergeB l r fs).2.length ∧ (mergeB l r fs).1.length = l.length + (mergeB l r fs).2.length := by
  have e : mergeB l r fs = fs.foldl mergeStep (l, []) := by simp [mergeB, h, hb]
  have ho := merge_out l fs l [] h (fun g hg => hg) (isBundle_vld hb)
  rw [← e] at ho
  refine ⟨ho.fl, ?_, ?_, ?_⟩
  · have e2 : mergeB (mergeB l r fs).1 r fs = fs.foldl mergeStep ((mergeB l r fs).1, []) := by
      have hfl := ho.fl
      generalize (mergeB l r fs).1 = m at hfl ⊢
      simp [mergeB, hfl, hb]
    rw [e2]
    exact merge_none _ _ _ ho.rej
  · have := ho.mis
    rw [missing_self] at this
    simpa using this
  · simpa using ho.len
end Go.Proofs.YtebcdjpddoaajaaDoor
