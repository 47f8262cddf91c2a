/- One element more at the end of a slice whose elements have memory of their own; make as a step of a region that draws its order. -/
import Derived.Test.YtadmeijogbljhaaTeamD
import Derived.Deep.RegionHeld3
import Derived.Deep.RegionLaw
import Derived.BigRegion
namespace Go.Proofs.Ytadmeijogbljhaa
open Go.RowKit
set_option linter.unusedVariables false
set_option linter.unusedSimpArgs false
set_option maxHeartbeats 400000
theorem OwSl.push {α : Type} {K : World → List Nat → List Value → α → Prop} (hK : Loc K) {B e sz n c : Nat} {w1 : World} {fs f : List Nat} {A : Option Addr} {l : List α} {cs : List Value} {x : α}
    (h : OwSl K w1 fs e sz A n c l) (hf : Fresh B w1 fs) (hk : K w1 f cs x) (hff : Fresh B w1 f) (hap : ∀ q ∈ fs, q ∉ f) (hB : B ≤ w1.heap.size) :
    ∃ css, Own w1 0 e sz A n c css ∧ ∀ w2 A' c', Own w2 0 e sz A' (n + 1) c' (css ++ [cs]) → w1.grownBy w2 (ob A) → (ob A' = ob A ∨ ob A' = some w1.heap.size) →
      ∃ fs', OwSl K w2 fs' e sz A' (n + 1) c' (l ++ [x]) ∧ Fresh B w2 fs' := by
  obtain ⟨css, fss, h1, h2, rfl⟩ := h
  refine ⟨css, h1, fun w2 A' c' ho hg hat => ?_⟩
  obtain ⟨nA, nF, nd⟩ := List.nodup_append.1 hf.nodup
  have hl2 := h2.lt_ hK
  have kp : ∀ q, q ∈ fss.flatten ∨ q ∈ f → w2.heap[q]? = w1.heap[q]? := by
    intro q hq
    refine hg.block q (by rcases hq with hq | hq; exact hl2 q hq; exact hff.hi q hq) (fun e => ?_)
    have ha := mem_obl.2 e.symm
    rcases hq with hq | hq
    · exact nd q ha q hq rfl
    · exact hap q (List.mem_append.2 (.inl ha)) hq
  have hE : Each (K w2) (fss ++ [f]) (css ++ [cs]) (l ++ [x]) := (h2.keep_ hK fun q hq => kp q (.inl hq)).append (Each.one (hK.keep hk fun q hq => kp q (.inr hq)))
  refine ⟨obl A' ++ (fss ++ [f]).flatten, ⟨css ++ [cs], fss ++ [f], ho, hE, rfl⟩, ?_⟩
  have hflat : (fss ++ [f]).flatten = fss.flatten ++ f := by simp
  rw [hflat]
  have hlt2 := hg.size
  have dA : ∀ q ∈ obl A', q ∉ fss.flatten ++ f ∧ B ≤ q ∧ q < w2.heap.size := by
    intro q hq
    have hq2 := mem_obl.1 hq
    have hql := (ho.lt q hq2).2
    rcases hat with hat | hat
    · rw [hat] at hq2
      have ha := mem_obl.2 hq2
      refine ⟨fun hm => ?_, hf.lo q (List.mem_append.2 (.inl ha)), hql⟩
      rcases List.mem_append.1 hm with hm | hm
      · exact nd q ha q hm rfl
      · exact hap q (List.mem_append.2 (.inl ha)) hm
    · rw [hat] at hq2
      have e := Option.some.inj hq2
      refine ⟨fun hm => ?_, by omega, hql⟩
      rcases List.mem_append.1 hm with hm | hm
      · have := hl2 q hm; omega
      · have := hff.hi q hm; omega
  refine ⟨?_, ?_, ?_⟩
  · refine List.nodup_append.2 ⟨by unfold obl; cases ob A' <;> simp, List.nodup_append.2 ⟨nF, hff.nodup, fun a ha b hb e => ?_⟩, fun a ha b hb e => (dA a ha).1 (e ▸ hb)⟩
    subst e
    exact hap a (List.mem_append.2 (.inr ha)) hb
  · intro q hq
    rcases List.mem_append.1 hq with hq | hq
    · exact (dA q hq).2.1
    · rcases List.mem_append.1 hq with hq | hq
      · exact hf.lo q (List.mem_append.2 (.inr hq))
      · exact hff.lo q hq
  · intro q hq
    rcases List.mem_append.1 hq with hq | hq
    · exact (dA q hq).2.2
    · rcases List.mem_append.1 hq with hq | hq
      · have := hl2 q hq; omega
      · have := hff.hi q hq; omega
theorem OwSl.obl_mem {α : Type} {K : World → List Nat → List Value → α → Prop} {w : World} {fs : List Nat} {e sz n c : Nat} {A : Option Addr} {l : List α} (h : OwSl K w fs e sz A n c l) : ∀ q ∈ obl A, q ∈ fs := by
  obtain ⟨css, fss, _, _, rfl⟩ := h
  exact fun q hq => List.mem_append.2 (.inl hq)
theorem run_make_lit {P : Program} (w : World) (t e : TypeId) (i : TypeInfo) (z : Value) (zs : List Value) (sz bytes : Nat) (h1 : P.underlying t = some (.slice e)) (h2 : P.info? e = some i) (h3 : i.zero = some z) (h4 : i.size = sz) (h5 : i.bytes = bytes) (hzs : z.cells = zs.toArray) (n : Nat) (b2 : bytes * n ≤ 281474976710656) (b3 : n ≤ maxLen) :
    (Instr.makeSlice t (.int .i64 (n : Int)) (.int .i64 (n : Int))).run P w = .ok (.slice (some ⟨w.heap.size, 0, none⟩) n n) (w.alloc (.cells (madeCells zs.toArray (n * sz)) e)) := by
  have h63' : (n : Int) ≤ 9223372036854775807 := by
    have h := b3
    simp [maxLen] at h
    omega
  have hb' : (i.bytes : Int) * (n : Int) ≤ 281474976710656 := by
    have h : ((i.bytes * n : Nat) : Int) ≤ 281474976710656 := by rw [h5]; omega
    rwa [Int.natCast_mul] at h
  have hr := run_make (P := P) w t e i z h1 h2 h3 .i64 .i64 n n (by omega) (Int.le_refl _) hb' h63'
  simp only [Int.toNat_natCast, h4, hzs] at hr
  exact hr
theorem Own.lit (w : World) (e n sz : Nat) (zs : List Value) {B : Nat} {MC : Array Value} (hB : B ≤ w.heap.size) (hM : MC = madeCells zs.toArray (n * sz)) (hzl : zs.length = sz) (hs : 0 < sz) (b3 : n ≤ maxLen) : Own (w.alloc (.cells MC e)) B e sz (some ⟨w.heap.size, 0, none⟩) n n (List.replicate n zs) := by
  subst hM
  have r1 := World.ownsRow_lit w (e := e) (size := sz) (madeCells zs.toArray (n * sz)) n hB b3 (size_madeCells _ _)
  refine ⟨?_, by simp, fun cs hcs => by rw [List.eq_of_mem_replicate hcs, hzl]⟩
  rw [← madeCells_flat zs n sz hzl hs]; exact r1
/-- make([]T, n), as a step of a region that draws its order -/
theorem step_make {P : Program} {w : World} {ops : Array Oper} {o : Oper} {a : Act} {Q : Exit → Act → World → Prop} {K : Act → World → Prop} {E : Prop} (hgd : o.guard = none) (l c : Operand) (t : TypeId) (hop : o.op = Op.makeSlice t l c)
    (B e sz bytes : Nat) (i : TypeInfo) (z : Value) (h1 : P.underlying t = some (.slice e)) (h2 : P.info? e = some i) (h3 : i.zero = some z) (h4 : i.size = sz) (h5 : i.bytes = bytes)
    (kl kc : IntKind) (n : Nat) (hl : a.eval l = .int kl (n : Int)) (hc : a.eval c = .int kc (n : Int)) (zs : List Value) (hzs : z.cells = zs.toArray) (hzl : zs.length = sz) (hs : 0 < sz) (b2 : bytes * n ≤ 281474976710656) (b3 : n ≤ maxLen) (b4 : B ≤ w.heap.size)
    (hK : ∀ w', Own w' B e sz (some ⟨w.heap.size, 0, none⟩) n n (List.replicate n zs) → w.grownBy w' none → K (a.put o.dst (.slice (some ⟨w.heap.size, 0, none⟩) n n)) w') :
    if Region.wanted o (yielded ops a.tmps) = true then Oper.wp P o a w K Q else E := by
  have hw : Region.wanted o (yielded ops a.tmps) = true := by simp [Region.wanted, hgd]
  rw [if_pos hw]
  obtain ⟨w', hrun, r1, r2⟩ := run_make_full (P := P) w B t e i z sz h1 h2 h3 h4 kl kc n (by rw [h5]; exact b2) b3 b4
  unfold Oper.wp
  simp [execOp, hop, hl, hc, hrun, Result.andThen]
  refine hK w' ⟨?_, by simp, ?_⟩ r2
  · rw [hzs, madeCells_flat zs n sz hzl hs] at r1; exact r1
  · intro cs hcs; rw [List.eq_of_mem_replicate hcs, hzl]
end Go.Proofs.Ytadmeijogbljhaa
