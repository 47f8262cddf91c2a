/- Texts of this proof, one behind the other: Push. -/
import Derived.Deep.RegionHeld3
import Derived.Deep.RegionLaw
import Derived.BigRegion
import Derived.Test.YtebcdjpddoaajaaDoorGr7
import Derived.Test.YtebcdjpddoaajaaDoorGr8
import Derived.Test.YtebcdjpddoaajaaDoorGr11
import Derived.Test.YtebcdjpddoaajaaDoorGr12
import Derived.Test.YtebcdjpddoaajaaDoorGr14
import Derived.Test.YtebcdjpddoaajaaDoorGr16
import Derived.Test.YtebcdjpddoaajaaDoorGr17
/- One element more at the end of a slice whose elements have memory of their own; make as a step of a region that draws its order. -/
namespace Go.Proofs.YtebcdjpddoaajaaDoor
open Go.RowKit
set_option linter.unusedVariables false
set_option linter.unusedSimpArgs false
set_option maxHeartbeats 400000
theorem OwSl.push {α : Type} {K : World → List Nat → List Value → α → Prop} (hK : Loc K) {B e sz n c : Nat} {w1 : World} {fs f : List Nat} {A : Option Addr} {l : List α} {cs : List Value} {x : α}
    (h : OwSl K w1 fs e sz A n c l) (hf : Fresh B w1 fs) (hk : K w1 f cs x) (hff : Fresh B w1 f) (hap : ∀ q ∈ fs, q ∉ f) (hB : B ≤ w1.heap.size) :
    ∃ css, Own w1 0 e sz A n c css ∧ ∀ w2 A' c', Own w2 0 e sz A' (n + 1) c' (css ++ [cs]) → w1.grownBy w2 (ob A) → (ob A' = ob A ∨ ob A' = some w1.heap.size) →
      ∃ fs', OwSl K w2 fs' e sz A' (n + 1) c' (l ++ [x]) ∧ Fresh B w2 fs' := by
  obtain ⟨css, fss, h1, h2, rfl⟩ := h
  refine ⟨css, h1, fun w2 A' c' ho hg hat => ?_⟩
  obtain ⟨nA, nF, nd⟩ := List.nodup_append.1 hf.nodup
  have hl2 := h2.lt_ hK
  have kp : ∀ q, q ∈ fss.flatten ∨ q ∈ f → w2.heap[q]? = w1.heap[q]? := by
    intro q hq
    refine hg.block q (by rcases hq with hq | hq; exact hl2 q hq; exact hff.hi q hq) (fun e => ?_)
    have ha := mem_obl.2 e.symm
    rcases hq with hq | hq
    · exact nd q ha q hq rfl
    · exact hap q (List.mem_append.2 (.inl ha)) hq
  have hE : Each (K w2) (fss ++ [f]) (css ++ [cs]) (l ++ [x]) := (h2.keep_ hK fun q hq => kp q (.inl hq)).append (Each.one (hK.keep hk fun q hq => kp q (.inr hq)))
  refine ⟨obl A' ++ (fss ++ [f]).flatten, ⟨css ++ [cs], fss ++ [f], ho, hE, rfl⟩, ?_⟩
  have hflat : (fss ++ [f]).flatten = fss.flatten ++ f := by simp
  rw [hflat]
  have hlt2 := hg.size
  have dA : ∀ q ∈ obl A', q ∉ fss.flatten ++ f ∧ B ≤ q ∧ q < w2.heap.size := by
    intro q hq
    have hq2 := mem_obl.1 hq
    have hql := (ho.lt q hq2).2
    rcases hat with hat | hat
    · rw [hat] at hq2
      have ha := mem_obl.2 hq2
      refine ⟨fun hm => ?_, hf.lo q (List.mem_append.2 (.inl ha)), hql⟩
      rcases List.mem_append.1 hm with hm | hm
      · exact nd q ha q hm rfl
      · exact hap q (List.mem_append.2 (.inl ha)) hm
    · rw [hat] at hq2
      have e := Option.some.inj hq2
      refine ⟨fun hm => ?_, by omega, hql⟩
      rcases List.mem_append.1 hm with hm | hm
      · have := hl2 q hm; omega
      · have := hff.hi q hm; omega
  refine ⟨?_, ?_, ?_⟩
  · refine List.nodup_append.2 ⟨by unfold obl; cases ob A' <;> simp, List.nodup_append.2 ⟨nF, hff.nodup, fun a ha b hb e => ?_⟩, fun a ha b hb e => (dA a ha).1 (e ▸ hb)⟩
    subst e
    exact hap a (List.mem_append.2 (.inr ha)) hb
  · intro q hq
    rcases List.mem_append.1 hq with hq | hq
    · exact (dA q hq).2.1
    · rcases List.mem_append.1 hq with hq | hq
      · exact hf.lo q (List.mem_append.2 (.inr hq))
      · exact hff.lo q hq
  · intro q hq
    rcases List.mem_append.1 hq with hq | hq
    · exact (dA q hq).2.2
    · rcases List.mem_append.1 hq with hq | hq
      · have := hl2 q hq; omega
      · have := hff.hi q hq; omega
theorem Each.putF {α : Type} {K K' : List Nat → List Value → α → Prop} : ∀ {fss : List (List Nat)} {css : List (List Value)} {l : List α} {i : Nat} {f' : List Nat} {cs' : List Value} {x' : α}, Each K fss css l → K' f' cs' x' →
    (∀ (j : Nat) (f2 : List Nat) (cs2 : List Value) (x2 : α), j ≠ i → fss[j]? = some f2 → css[j]? = some cs2 → l[j]? = some x2 → K f2 cs2 x2 → K' f2 cs2 x2) → Each K' (fss.set i f') (css.set i cs') (l.set i x')
  | [], [], [], i, f', cs', x', _, _, _ => trivial
  | a :: r, c :: cr, y :: lr, 0, f', cs', x', he, hk', hall =>
    ⟨hk', he.2.imp fun j f2 cs2 x2 h1 h2 h3 h4 => hall (j + 1) f2 cs2 x2 (by omega) (by simpa using h1) (by simpa using h2) (by simpa using h3) h4⟩
  | a :: r, c :: cr, y :: lr, i + 1, f', cs', x', he, hk', hall =>
    ⟨hall 0 a c y (by omega) rfl rfl rfl he.1, Each.putF he.2 hk' fun j f2 cs2 x2 hne h1 h2 h3 h4 => hall (j + 1) f2 cs2 x2 (by omega) (by simpa using h1) (by simpa using h2) (by simpa using h3) h4⟩
theorem flat_set_mem : ∀ {fss : List (List Nat)} {i : Nat} {f' : List Nat} {q : Nat}, q ∈ (fss.set i f').flatten → q ∈ f' ∨ ∃ j g, j ≠ i ∧ fss[j]? = some g ∧ q ∈ g
  | [], i, f', q, h => by simp at h
  | a :: r, 0, f', q, h => by
    rw [List.set_cons_zero, List.flatten_cons] at h
    rcases List.mem_append.1 h with h | h
    · exact .inl h
    · obtain ⟨g, hg, hq⟩ := List.mem_flatten.1 h
      obtain ⟨j, hj, rfl⟩ := List.mem_iff_getElem.1 hg
      exact .inr ⟨j + 1, _, by omega, by simp, hq⟩
  | a :: r, i + 1, f', q, h => by
    rw [List.set_cons_succ, List.flatten_cons] at h
    rcases List.mem_append.1 h with h | h
    · exact .inr ⟨0, a, by omega, rfl, h⟩
    · rcases flat_set_mem h with h | ⟨j, g, hne, hg, hq⟩
      · exact .inl h
      · exact .inr ⟨j + 1, g, by omega, by simpa using hg, hq⟩
theorem flat_set_nodup : ∀ {fss : List (List Nat)} {i : Nat} {f f' : List Nat}, fss.flatten.Nodup → fss[i]? = some f → f'.Nodup → (∀ q ∈ f', q ∈ f ∨ q ∉ fss.flatten) → (fss.set i f').flatten.Nodup
  | a :: r, 0, f, f', hn, hf, hd, hq => by
    simp only [List.getElem?_cons_zero, Option.some.injEq] at hf; subst hf
    rw [List.flatten_cons] at hn
    obtain ⟨n1, n2, n3⟩ := List.nodup_append.1 hn
    rw [List.set_cons_zero, List.flatten_cons]
    refine List.nodup_append.2 ⟨hd, n2, fun x hx y hy e => ?_⟩
    subst e
    rcases hq x hx with h | h
    · exact n3 x h x hy rfl
    · exact h (by rw [List.flatten_cons]; exact List.mem_append.2 (.inr hy))
  | a :: r, i + 1, f, f', hn, hf, hd, hq => by
    simp only [List.getElem?_cons_succ] at hf
    rw [List.flatten_cons] at hn
    obtain ⟨n1, n2, n3⟩ := List.nodup_append.1 hn
    rw [List.set_cons_succ, List.flatten_cons]
    have ih := flat_set_nodup n2 hf hd fun q hqm => by
      rcases hq q hqm with h | h
      · exact .inl h
      · exact .inr fun hm => h (by rw [List.flatten_cons]; exact List.mem_append.2 (.inr hm))
    refine List.nodup_append.2 ⟨n1, ih, fun x hx y hy e => ?_⟩
    subst e
    rcases flat_set_mem hy with h | ⟨j, g, _, hg, hxg⟩
    · rcases hq x h with h2 | h2
      · exact n3 x hx x (mem_flat hf h2) rfl
      · exact h2 (by rw [List.flatten_cons]; exact List.mem_append.2 (.inl hx))
    · exact n3 x hx x (mem_flat hg hxg) rfl
/-- element i of a slice of the call's own, to be written; its own memory may become other memory -/
theorem OwSl.refocus {α : Type} {K : World → List Nat → List Value → α → Prop} (hK : Loc K) {B : Nat} {w : World} {fs : List Nat} {e sz n c : Nat} {A : Option Addr} {l : List α} (h : OwSl K w fs e sz A n c l) (hfr : Fresh B w fs) (hB : B ≤ w.heap.size) {i : Nat} {x : α} (hx : l[i]? = some x) :
    ∃ css f cs g, Own w 0 e sz A n c css ∧ css[i]? = some cs ∧ K w f cs x ∧ A = some ⟨g, 0, none⟩ ∧ g ∉ f ∧ B ≤ g ∧ g < w.heap.size ∧ (∀ k ∈ f, B ≤ k ∧ k < w.heap.size) ∧ f.Nodup ∧
      (∀ w' cs' x' f', Own w' 0 e sz A n c (css.set i cs') → K w' f' cs' x' → Upd (g :: f) w w' → f'.Nodup → (∀ q ∈ f', q ∈ f ∨ w.heap.size ≤ q) → ∃ fs', OwSl K w' fs' e sz A n c (l.set i x') ∧ Fresh B w' fs') := by
  have hlt := h.lt hK
  obtain ⟨css, fss, h1, h2, rfl⟩ := h
  obtain ⟨f, cs, hf, hcs, hk⟩ := h2.at_ hx
  obtain ⟨hno, hnf, hna⟩ := List.nodup_append.1 hfr.nodup
  rcases h1.cases with ⟨_, _, _, rfl⟩ | ⟨g, rfl, _, hgl, _⟩
  · simp at hcs
  · have hgo : g ∈ obl (some ⟨g, 0, none⟩) := by simp [obl, ob]
    have hgf : g ∉ fss.flatten := fun hm => hna g hgo g hm rfl
    have hin : ∀ k ∈ f, k ∈ obl (some ⟨g, 0, none⟩) ++ fss.flatten := fun k hk => List.mem_append.2 (.inr (mem_flat hf hk))
    refine ⟨css, f, cs, g, h1, hcs, hk, rfl, fun hm => hgf (mem_flat hf hm), hfr.lo g (List.mem_append.2 (.inl hgo)), hgl, fun k hk => ⟨hfr.lo k (hin k hk), hlt k (hin k hk)⟩, flat_nodup hnf (List.mem_of_getElem? hf), fun w' cs' x' f' ho hk' hu hd hq => ?_⟩
    have hold : ∀ q ∈ fss.flatten, q < w.heap.size := fun q hm => hlt q (List.mem_append.2 (.inr hm))
    have hE : Each (K w') (fss.set i f') (css.set i cs') (l.set i x') := h2.putF hk' fun j f2 cs2 x2 hne h3 _ _ hk2 => by
      refine hK.keep hk2 fun k hkf => hu.block k (hK.lt hk2 k hkf) ?_
      simp only [List.mem_cons, not_or]
      exact ⟨fun e => hgf (by rw [← e]; exact mem_flat h3 hkf), flat_apart hnf h3 hf hne k hkf⟩
    have hmem : ∀ q ∈ (fss.set i f').flatten, q ∈ fss.flatten ∨ (w.heap.size ≤ q ∧ q ∈ f') := fun q hm => by
      rcases flat_set_mem hm with h | ⟨j, g2, _, hg2, hq2⟩
      · rcases hq q h with h2 | h2
        · exact .inl (mem_flat hf h2)
        · exact .inr ⟨h2, h⟩
      · exact .inl (mem_flat hg2 hq2)
    have hltE := hE.lt_ hK
    refine ⟨obl (some ⟨g, 0, none⟩) ++ (fss.set i f').flatten, ⟨css.set i cs', fss.set i f', ho, hE, rfl⟩, ?_, ?_, ?_⟩
    · refine List.nodup_append.2 ⟨hno, flat_set_nodup hnf hf hd fun q hqm => ?_, fun a ha b hb e => ?_⟩
      · rcases hq q hqm with h2 | h2
        · exact .inl h2
        · exact .inr fun hm => by have := hold q hm; omega
      · subst e
        simp [obl, ob] at ha
        subst ha
        rcases hmem a hb with h2 | h2
        · exact hgf h2
        · omega
    · intro q hm
      rcases List.mem_append.1 hm with hm | hm
      · exact hfr.lo q (List.mem_append.2 (.inl hm))
      · rcases hmem q hm with h2 | h2
        · exact hfr.lo q (List.mem_append.2 (.inr h2))
        · omega
    · intro q hm
      rcases List.mem_append.1 hm with hm | hm
      · simp [obl, ob] at hm
        have := hu.size; omega
      · exact hltE q hm
theorem OwSl.obl_mem {α : Type} {K : World → List Nat → List Value → α → Prop} {w : World} {fs : List Nat} {e sz n c : Nat} {A : Option Addr} {l : List α} (h : OwSl K w fs e sz A n c l) : ∀ q ∈ obl A, q ∈ fs := by
  obtain ⟨css, fss, _, _, rfl⟩ := h
  exact fun q hq => List.mem_append.2 (.inl hq)
theorem run_make_lit {P : Program} (w : World) (t e : TypeId) (i : TypeInfo) (z : Value) (zs : List Value) (sz bytes : Nat) (h1 : P.underlying t = some (.slice e)) (h2 : P.info? e = some i) (h3 : i.zero = some z) (h4 : i.size = sz) (h5 : i.bytes = bytes) (hzs : z.cells = zs.toArray) (n : Nat) (b2 : bytes * n ≤ 281474976710656) (b3 : n ≤ maxLen) :
    (Instr.makeSlice t (.int .i64 (n : Int)) (.int .i64 (n : Int))).run P w = .ok (.slice (some ⟨w.heap.size, 0, none⟩) n n) (w.alloc (.cells (madeCells zs.toArray (n * sz)) e)) := by
  have h63' : (n : Int) ≤ 9223372036854775807 := by
    have h := b3
    simp [maxLen] at h
    omega
  have hb' : (i.bytes : Int) * (n : Int) ≤ 281474976710656 := by
    have h : ((i.bytes * n : Nat) : Int) ≤ 281474976710656 := by rw [h5]; omega
    rwa [Int.natCast_mul] at h
  have hr := run_make (P := P) w t e i z h1 h2 h3 .i64 .i64 n n (by omega) (Int.le_refl _) hb' h63'
  simp only [Int.toNat_natCast, h4, hzs] at hr
  exact hr
theorem Own.lit (w : World) (e n sz : Nat) (zs : List Value) {B : Nat} {MC : Array Value} (hB : B ≤ w.heap.size) (hM : MC = madeCells zs.toArray (n * sz)) (hzl : zs.length = sz) (hs : 0 < sz) (b3 : n ≤ maxLen) : Own (w.alloc (.cells MC e)) B e sz (some ⟨w.heap.size, 0, none⟩) n n (List.replicate n zs) := by
  subst hM
  have r1 := World.ownsRow_lit w (e := e) (size := sz) (madeCells zs.toArray (n * sz)) n hB b3 (size_madeCells _ _)
  refine ⟨?_, by simp, fun cs hcs => by rw [List.eq_of_mem_replicate hcs, hzl]⟩
  rw [← madeCells_flat zs n sz hzl hs]; exact r1
/-- make([]T, n), as a step of a region that draws its order -/
theorem step_make {P : Program} {w : World} {ops : Array Oper} {o : Oper} {a : Act} {Q : Exit → Act → World → Prop} {K : Act → World → Prop} {E : Prop} (hgd : o.guard = none) (l c : Operand) (t : TypeId) (hop : o.op = Op.makeSlice t l c)
    (B e sz bytes : Nat) (i : TypeInfo) (z : Value) (h1 : P.underlying t = some (.slice e)) (h2 : P.info? e = some i) (h3 : i.zero = some z) (h4 : i.size = sz) (h5 : i.bytes = bytes)
    (kl kc : IntKind) (n : Nat) (hl : a.eval l = .int kl (n : Int)) (hc : a.eval c = .int kc (n : Int)) (zs : List Value) (hzs : z.cells = zs.toArray) (hzl : zs.length = sz) (hs : 0 < sz) (b2 : bytes * n ≤ 281474976710656) (b3 : n ≤ maxLen) (b4 : B ≤ w.heap.size)
    (hK : ∀ w', Own w' B e sz (some ⟨w.heap.size, 0, none⟩) n n (List.replicate n zs) → w.grownBy w' none → K (a.put o.dst (.slice (some ⟨w.heap.size, 0, none⟩) n n)) w') :
    if Region.wanted o (yielded ops a.tmps) = true then Oper.wp P o a w K Q else E := by
  have hw : Region.wanted o (yielded ops a.tmps) = true := by simp [Region.wanted, hgd]
  rw [if_pos hw]
  obtain ⟨w', hrun, r1, r2⟩ := run_make_full (P := P) w B t e i z sz h1 h2 h3 h4 kl kc n (by rw [h5]; exact b2) b3 b4
  unfold Oper.wp
  simp [execOp, hop, hl, hc, hrun, Result.andThen]
  refine hK w' ⟨?_, by simp, ?_⟩ r2
  · rw [hzs, madeCells_flat zs n sz hzl hs] at r1; exact r1
  · intro cs hcs; rw [List.eq_of_mem_replicate hcs, hzl]
theorem own_cells {w : World} {B e sz n c g k : Nat} {css : List (List Value)} {cs : List Value} (h : Own w B e sz (some ⟨g, 0, none⟩) n c css) (hcs : css[k]? = some cs) : ∀ (j : Nat) (u : Value), cs[j]? = some u → w.cell? ⟨g, k * sz + j, none⟩ = some u := by
  intro j u hu
  obtain ⟨g', off', hA, hc⟩ := h.row.2 k cs hcs
  simp only [Option.some.injEq, Addr.mk.injEq, and_true] at hA
  obtain ⟨rfl, rfl⟩ := hA
  simpa using hc j u hu
end Go.Proofs.YtebcdjpddoaajaaDoor
