/- Texts of this proof, one behind the other: Push, Places, Draw2, Draw3, Draw4. -/
import Derived.Deep.RegionHeld3
import Derived.Deep.RegionLaw
import Derived.BigRegion
import Derived.Test.YtdfemnffpaopfaaGreatDoorGrr1
import Derived.Test.YtdfemnffpaopfaaGreatDoorGrr2
import Derived.Test.YtdfemnffpaopfaaGreatDoorGrr5
import Derived.Test.YtdfemnffpaopfaaGreatDoorGrr8
import Derived.Test.YtdfemnffpaopfaaGreatDoorGrr10
/- One element more at the end of a slice whose elements have memory of their own; make as a step of a region that draws its order. -/
namespace Go.Proofs.YtdfemnffpaopfaaGreatDoor
open Go.RowKit
set_option linter.unusedVariables false
set_option linter.unusedSimpArgs false
set_option maxHeartbeats 400000
theorem Each.putF {α : Type} {K K' : List Nat → List Value → α → Prop} : ∀ {fss : List (List Nat)} {css : List (List Value)} {l : List α} {i : Nat} {f' : List Nat} {cs' : List Value} {x' : α}, Each K fss css l → K' f' cs' x' →
    (∀ (j : Nat) (f2 : List Nat) (cs2 : List Value) (x2 : α), j ≠ i → fss[j]? = some f2 → css[j]? = some cs2 → l[j]? = some x2 → K f2 cs2 x2 → K' f2 cs2 x2) → Each K' (fss.set i f') (css.set i cs') (l.set i x')
  | [], [], [], i, f', cs', x', _, _, _ => trivial
  | a :: r, c :: cr, y :: lr, 0, f', cs', x', he, hk', hall =>
    ⟨hk', he.2.imp fun j f2 cs2 x2 h1 h2 h3 h4 => hall (j + 1) f2 cs2 x2 (by omega) (by simpa using h1) (by simpa using h2) (by simpa using h3) h4⟩
  | a :: r, c :: cr, y :: lr, i + 1, f', cs', x', he, hk', hall =>
    ⟨hall 0 a c y (by omega) rfl rfl rfl he.1, Each.putF he.2 hk' fun j f2 cs2 x2 hne h1 h2 h3 h4 => hall (j + 1) f2 cs2 x2 (by omega) (by simpa using h1) (by simpa using h2) (by simpa using h3) h4⟩
theorem flat_set_mem : ∀ {fss : List (List Nat)} {i : Nat} {f' : List Nat} {q : Nat}, q ∈ (fss.set i f').flatten → q ∈ f' ∨ ∃ j g, j ≠ i ∧ fss[j]? = some g ∧ q ∈ g
  | [], i, f', q, h => by simp at h
  | a :: r, 0, f', q, h => by
    rw [List.set_cons_zero, List.flatten_cons] at h
    rcases List.mem_append.1 h with h | h
    · exact .inl h
    · obtain ⟨g, hg, hq⟩ := List.mem_flatten.1 h
      obtain ⟨j, hj, rfl⟩ := List.mem_iff_getElem.1 hg
      exact .inr ⟨j + 1, _, by omega, by simp, hq⟩
  | a :: r, i + 1, f', q, h => by
    rw [List.set_cons_succ, List.flatten_cons] at h
    rcases List.mem_append.1 h with h | h
    · exact .inr ⟨0, a, by omega, rfl, h⟩
    · rcases flat_set_mem h with h | ⟨j, g, hne, hg, hq⟩
      · exact .inl h
      · exact .inr ⟨j + 1, g, by omega, by simpa using hg, hq⟩
theorem flat_set_nodup : ∀ {fss : List (List Nat)} {i : Nat} {f f' : List Nat}, fss.flatten.Nodup → fss[i]? = some f → f'.Nodup → (∀ q ∈ f', q ∈ f ∨ q ∉ fss.flatten) → (fss.set i f').flatten.Nodup
  | a :: r, 0, f, f', hn, hf, hd, hq => by
    simp only [List.getElem?_cons_zero, Option.some.injEq] at hf; subst hf
    rw [List.flatten_cons] at hn
    obtain ⟨n1, n2, n3⟩ := List.nodup_append.1 hn
    rw [List.set_cons_zero, List.flatten_cons]
    refine List.nodup_append.2 ⟨hd, n2, fun x hx y hy e => ?_⟩
    subst e
    rcases hq x hx with h | h
    · exact n3 x h x hy rfl
    · exact h (by rw [List.flatten_cons]; exact List.mem_append.2 (.inr hy))
  | a :: r, i + 1, f, f', hn, hf, hd, hq => by
    simp only [List.getElem?_cons_succ] at hf
    rw [List.flatten_cons] at hn
    obtain ⟨n1, n2, n3⟩ := List.nodup_append.1 hn
    rw [List.set_cons_succ, List.flatten_cons]
    have ih := flat_set_nodup n2 hf hd fun q hqm => by
      rcases hq q hqm with h | h
      · exact .inl h
      · exact .inr fun hm => h (by rw [List.flatten_cons]; exact List.mem_append.2 (.inr hm))
    refine List.nodup_append.2 ⟨n1, ih, fun x hx y hy e => ?_⟩
    subst e
    rcases flat_set_mem hy with h | ⟨j, g, _, hg, hxg⟩
    · rcases hq x h with h2 | h2
      · exact n3 x hx x (mem_flat hf h2) rfl
      · exact h2 (by rw [List.flatten_cons]; exact List.mem_append.2 (.inl hx))
    · exact n3 x hx x (mem_flat hg hxg) rfl
/-- element i of a slice of the call's own, to be written; its own memory may become other memory -/
theorem OwSl.refocus {α : Type} {K : World → List Nat → List Value → α → Prop} (hK : Loc K) {B : Nat} {w : World} {fs : List Nat} {e sz n c : Nat} {A : Option Addr} {l : List α} (h : OwSl K w fs e sz A n c l) (hfr : Fresh B w fs) (hB : B ≤ w.heap.size) {i : Nat} {x : α} (hx : l[i]? = some x) :
    ∃ css f cs g, Own w 0 e sz A n c css ∧ css[i]? = some cs ∧ K w f cs x ∧ A = some ⟨g, 0, none⟩ ∧ g ∉ f ∧ B ≤ g ∧ g < w.heap.size ∧ (∀ k ∈ f, B ≤ k ∧ k < w.heap.size) ∧ f.Nodup ∧
      (∀ w' cs' x' f', Own w' 0 e sz A n c (css.set i cs') → K w' f' cs' x' → Upd (g :: f) w w' → f'.Nodup → (∀ q ∈ f', q ∈ f ∨ w.heap.size ≤ q) → ∃ fs', OwSl K w' fs' e sz A n c (l.set i x') ∧ Fresh B w' fs') := by
  have hlt := h.lt hK
  obtain ⟨css, fss, h1, h2, rfl⟩ := h
  obtain ⟨f, cs, hf, hcs, hk⟩ := h2.at_ hx
  obtain ⟨hno, hnf, hna⟩ := List.nodup_append.1 hfr.nodup
  rcases h1.cases with ⟨_, _, _, rfl⟩ | ⟨g, rfl, _, hgl, _⟩
  · simp at hcs
  · have hgo : g ∈ obl (some ⟨g, 0, none⟩) := by simp [obl, ob]
    have hgf : g ∉ fss.flatten := fun hm => hna g hgo g hm rfl
    have hin : ∀ k ∈ f, k ∈ obl (some ⟨g, 0, none⟩) ++ fss.flatten := fun k hk => List.mem_append.2 (.inr (mem_flat hf hk))
    refine ⟨css, f, cs, g, h1, hcs, hk, rfl, fun hm => hgf (mem_flat hf hm), hfr.lo g (List.mem_append.2 (.inl hgo)), hgl, fun k hk => ⟨hfr.lo k (hin k hk), hlt k (hin k hk)⟩, flat_nodup hnf (List.mem_of_getElem? hf), fun w' cs' x' f' ho hk' hu hd hq => ?_⟩
    have hold : ∀ q ∈ fss.flatten, q < w.heap.size := fun q hm => hlt q (List.mem_append.2 (.inr hm))
    have hE : Each (K w') (fss.set i f') (css.set i cs') (l.set i x') := h2.putF hk' fun j f2 cs2 x2 hne h3 _ _ hk2 => by
      refine hK.keep hk2 fun k hkf => hu.block k (hK.lt hk2 k hkf) ?_
      simp only [List.mem_cons, not_or]
      exact ⟨fun e => hgf (by rw [← e]; exact mem_flat h3 hkf), flat_apart hnf h3 hf hne k hkf⟩
    have hmem : ∀ q ∈ (fss.set i f').flatten, q ∈ fss.flatten ∨ (w.heap.size ≤ q ∧ q ∈ f') := fun q hm => by
      rcases flat_set_mem hm with h | ⟨j, g2, _, hg2, hq2⟩
      · rcases hq q h with h2 | h2
        · exact .inl (mem_flat hf h2)
        · exact .inr ⟨h2, h⟩
      · exact .inl (mem_flat hg2 hq2)
    have hltE := hE.lt_ hK
    refine ⟨obl (some ⟨g, 0, none⟩) ++ (fss.set i f').flatten, ⟨css.set i cs', fss.set i f', ho, hE, rfl⟩, ?_, ?_, ?_⟩
    · refine List.nodup_append.2 ⟨hno, flat_set_nodup hnf hf hd fun q hqm => ?_, fun a ha b hb e => ?_⟩
      · rcases hq q hqm with h2 | h2
        · exact .inl h2
        · exact .inr fun hm => by have := hold q hm; omega
      · subst e
        simp [obl, ob] at ha
        subst ha
        rcases hmem a hb with h2 | h2
        · exact hgf h2
        · omega
    · intro q hm
      rcases List.mem_append.1 hm with hm | hm
      · exact hfr.lo q (List.mem_append.2 (.inl hm))
      · rcases hmem q hm with h2 | h2
        · exact hfr.lo q (List.mem_append.2 (.inr h2))
        · omega
    · intro q hm
      rcases List.mem_append.1 hm with hm | hm
      · simp [obl, ob] at hm
        have := hu.size; omega
      · exact hltE q hm
theorem OwSl.obl_mem {α : Type} {K : World → List Nat → List Value → α → Prop} {w : World} {fs : List Nat} {e sz n c : Nat} {A : Option Addr} {l : List α} (h : OwSl K w fs e sz A n c l) : ∀ q ∈ obl A, q ∈ fs := by
  obtain ⟨css, fss, _, _, rfl⟩ := h
  exact fun q hq => List.mem_append.2 (.inl hq)
theorem Own.lit (w : World) (e n sz : Nat) (zs : List Value) {B : Nat} {MC : Array Value} (hB : B ≤ w.heap.size) (hM : MC = madeCells zs.toArray (n * sz)) (hzl : zs.length = sz) (hs : 0 < sz) (b3 : n ≤ maxLen) : Own (w.alloc (.cells MC e)) B e sz (some ⟨w.heap.size, 0, none⟩) n n (List.replicate n zs) := by
  subst hM
  have r1 := World.ownsRow_lit w (e := e) (size := sz) (madeCells zs.toArray (n * sz)) n hB b3 (size_madeCells _ _)
  refine ⟨?_, by simp, fun cs hcs => by rw [List.eq_of_mem_replicate hcs, hzl]⟩
  rw [← madeCells_flat zs n sz hzl hs]; exact r1
theorem own_cells {w : World} {B e sz n c g k : Nat} {css : List (List Value)} {cs : List Value} (h : Own w B e sz (some ⟨g, 0, none⟩) n c css) (hcs : css[k]? = some cs) : ∀ (j : Nat) (u : Value), cs[j]? = some u → w.cell? ⟨g, k * sz + j, none⟩ = some u := by
  intro j u hu
  obtain ⟨g', off', hA, hc⟩ := h.row.2 k cs hcs
  simp only [Option.some.injEq, Addr.mk.injEq, and_true] at hA
  obtain ⟨rfl, rfl⟩ := hA
  simpa using hc j u hu
end Go.Proofs.YtdfemnffpaopfaaGreatDoor


/- IsPlaceList: what the two of it answer. -/
namespace Go.Proofs.YtdfemnffpaopfaaGreatDoor
open Go.RowKit
set_option linter.unusedVariables false
set_option linter.unusedSimpArgs false
set_option maxHeartbeats 800000
set_option maxRecDepth 100000

theorem Row.take_ {α : Type} {w : World} {A : Option Addr} {n sz : Nat} {l : List α} {c : α → List Value} (h : Row w A n sz (l.map c)) {k : Nat} (hk : k ≤ n) : Row w A k sz ((l.take k).map c) := by
  have hl : l.length = n := h.len
  refine ⟨by simp; omega, fun i cs hi => ?_⟩
  rw [List.map_take] at hi
  have hik : i < k := by
    have := (List.getElem?_eq_some_iff.1 hi).1
    simp at this; omega
  rw [List.getElem?_take, if_pos hik] at hi
  exact h.2 i cs hi
def plL : List Place → List ByteArray → Bool
  | [], _ => true
  | p :: r, seen => vldPlace p && (!hasStr seen p.name && plL r (seen ++ [p.name]))
def isPL (l : List Place) : Bool := decide (l.length ≤ 16) && plL l []
/-- the names of the first k -/
def nmT (l : List Place) (k : Nat) : List ByteArray := (l.take k).map (·.name)
def PlInv (l : List Place) (k : Nat) : Prop := plL l [] = plL (l.drop k) (nmT l k)
theorem PlInv.step {l : List Place} {k : Nat} {p : Place} (h : PlInv l k) (hf : Hid (l[k]? = some p)) : plL l [] = (vldPlace p && (!hasStr (nmT l k) p.name && plL (l.drop (k + 1)) (nmT l (k + 1)))) := by
  unfold PlInv at h
  have h1 : l[k]? = some p := hf
  obtain ⟨hk, rfl⟩ := List.getElem?_eq_some_iff.1 h1
  rw [h, drop_at hf, plL]
  have e : nmT l (k + 1) = nmT l k ++ [l[k].name] := by
    unfold nmT; rw [List.take_succ_eq_append_getElem hk, List.map_append]; rfl
  rw [e]
theorem PlInv.done {l : List Place} {k n : Nat} (h : PlInv l k) (hl : Hid (l.length = n)) (hk : ¬ k < n) : Hid (plL l [] = true) := by
  unfold PlInv at h; rw [Hid, h, drop_end hl hk]; rfl
/-- the inner search: through the first j of the first k -/
def SeenInv (l : List Place) (k j : Nat) (s : ByteArray) : Prop := hasStr (nmT l k) s = hasStr ((nmT l k).drop j) s
theorem SeenInv.step {l : List Place} {k j : Nat} {s : ByteArray} {q : Place} (h : SeenInv l k j s) (hf : Hid ((l.take k)[j]? = some q)) : hasStr (nmT l k) s = ((q.name.toList == s.toList) || hasStr ((nmT l k).drop (j + 1)) s) := by
  unfold SeenInv at h
  have e : Hid ((nmT l k)[j]? = some q.name) := by
    have : (l.take k)[j]? = some q := hf
    show ((l.take k).map (·.name))[j]? = _
    rw [List.getElem?_map, this]; rfl
  rw [h, drop_at e]; rfl
theorem SeenInv.done {l : List Place} {k j : Nat} {s : ByteArray} (h : SeenInv l k j s) (hl : Hid (l.length = l.length)) (hk : ¬ j < k) : Hid (hasStr (nmT l k) s = false) := by
  unfold SeenInv at h
  rw [Hid, h, List.drop_eq_nil_of_le (by simp [nmT]; omega)]; rfl

end Go.Proofs.YtdfemnffpaopfaaGreatDoor


/- The draws of places: l01Pick, l26Bits, l26Draw, MakePlaces: valid places, few of them. -/
namespace Go.Proofs.YtdfemnffpaopfaaGreatDoor
open Go.RowKit
set_option linter.unusedVariables false
set_option linter.unusedSimpArgs false
set_option maxHeartbeats 1000000
set_option maxRecDepth 100000
/-- the name of place k -/
def pnm (k : Nat) : ByteArray := ⟨#[112]⟩ ++ itoaB (k : Int)
theorem pnm_eq {k : Nat} (h : k < 10) : pnm k = ⟨#[112, UInt8.ofNat (48 + k)]⟩ := by
  apply bext
  unfold pnm itoaB
  rw [Lib.itoa_nonneg, Lib.decDigits_one h, ByteArray.data_append, Array.toList_append]
  rfl
/-- what the draw makes -/
def PDraw (l : List Place) : Prop := l.length ≤ 5 ∧ ∀ (k : Nat) (p : Place), l[k]? = some p → p.name = pnm k ∧ 0 ≤ p.bits ∧ p.bits ≤ 1073741823
theorem nm_ok : ∀ k : Fin 10, isPoseNm ⟨#[112, UInt8.ofNat (48 + k.val)]⟩ = true := by decide +kernel
theorem nm_new : ∀ k : Fin 10, hasStr ((List.range k.val).map fun j => (⟨#[112, UInt8.ofNat (48 + j)]⟩ : ByteArray)) ⟨#[112, UInt8.ofNat (48 + k.val)]⟩ = false := by decide +kernel
theorem plL_draw : ∀ (l : List Place) (s : Nat), (∀ (k : Nat) (p : Place), l[k]? = some p → p.name = pnm (s + k) ∧ 0 ≤ p.bits ∧ p.bits ≤ 1073741823) → s + l.length ≤ 10 → plL l ((List.range s).map fun j => (⟨#[112, UInt8.ofNat (48 + j)]⟩ : ByteArray)) = true
  | [], _, _, _ => rfl
  | p :: l, s, h, hs => by
    simp only [List.length_cons] at hs
    obtain ⟨h1, h2, h3⟩ := h 0 p rfl
    rw [Nat.add_zero, pnm_eq (by omega)] at h1
    have ih := plL_draw l (s + 1) (fun k q hq => by have := h (k + 1) q (by simpa using hq); rwa [show s + (k + 1) = s + 1 + k by omega] at this) (by omega)
    rw [List.range_succ, List.map_append] at ih
    have e1 := nm_ok ⟨s, by omega⟩
    have e2 := nm_new ⟨s, by omega⟩
    simp only at e1 e2
    have e3 : inR p.bits 0 1073741823 = true := inR_iff.2 ⟨h2, h3⟩
    unfold plL vldPlace
    rw [h1, e1, e2, e3]
    simpa using ih
theorem PDraw.isPL {l : List Place} (h : PDraw l) : isPL l = true := by
  have h1 := plL_draw l 0 (fun k p hk => by have := h.2 k p hk; simpa using this) (by have := h.1; omega)
  have h2 := h.1
  unfold Go.Proofs.YtdfemnffpaopfaaGreatDoor.isPL
  simp only [Bool.and_eq_true, decide_eq_true_eq]
  exact ⟨by omega, h1⟩
theorem Cur.keep {W w w' : World} {b : Nat} {A : Option Addr} {n c : Nat} (h : Cur W w b A n c) (hB : Below W.heap.size W w') (hk : w'.heap[b]? = w.heap[b]?) : Cur W w' b A n c := by
  have e1 : ∀ o, w'.cell? ⟨b, o, none⟩ = w.cell? ⟨b, o, none⟩ := fun o => World.cell?_of_block (a := ⟨b, o, none⟩) hk
  have e2 : ∀ o, w'.frozen? ⟨b, o, none⟩ = w.frozen? ⟨b, o, none⟩ := fun o => World.frozen?_of_block (a := ⟨b, o, none⟩) hk
  obtain ⟨i, hi, h1⟩ := h.c1
  obtain ⟨k, h2⟩ := h.c2
  exact ⟨hB, h.hb, (e1 0).trans h.c0, ⟨i, hi, (e1 1).trans h1⟩, ⟨k, (e1 2).trans h2⟩, fun o => (e2 o).trans (h.fz o)⟩
end Go.Proofs.YtdfemnffpaopfaaGreatDoor


/- The draws of single factors: l01Once, l01Str, l05Draw, l16Pose, l16Draw. -/
namespace Go.Proofs.YtdfemnffpaopfaaGreatDoor
open Go.RowKit
set_option linter.unusedVariables false
set_option linter.unusedSimpArgs false
set_option maxHeartbeats 1000000
set_option maxRecDepth 100000
theorem Cur.set_ {W w : World} {b : Nat} {A : Option Addr} {n c : Nat} (h : Cur W w b A n c) {p : Addr} (hp : b < p.block) (u : Value) : Cur W (w.setCell p u) b A n c :=
  h.keep (bSet h.hB (by have := h.hb; omega) u) (Below.heap_setCell _ _ _ _ (by omega))
/-- a pose near the origin -/
def nearP (M t x y : Int) : Prop := 0 ≤ t ∧ t ≤ 3 ∧ -M ≤ x ∧ x ≤ M ∧ -M ≤ y ∧ y ≤ M
end Go.Proofs.YtdfemnffpaopfaaGreatDoor


/- l16Draw: a valid factor. -/
namespace Go.Proofs.YtdfemnffpaopfaaGreatDoor
open Go.RowKit
set_option linter.unusedVariables false
set_option linter.unusedSimpArgs false
set_option maxHeartbeats 1000000
set_option maxRecDepth 100000
abbrev pNames : List ByteArray := [(⟨#[112, 48]⟩ : ByteArray), ⟨#[112, 49]⟩, ⟨#[112, 50]⟩, ⟨#[112, 51]⟩]
abbrev mNames : List ByteArray := [(⟨#[109, 48]⟩ : ByteArray), ⟨#[109, 49]⟩]
theorem Cur.alloc_ {W w : World} {b : Nat} {A : Option Addr} {n c : Nat} (h : Cur W w b A n c) (o : Obj) : Cur W (w.alloc o) b A n c := h.below (bAlloc (Below.refl _ _) o)
end Go.Proofs.YtdfemnffpaopfaaGreatDoor

