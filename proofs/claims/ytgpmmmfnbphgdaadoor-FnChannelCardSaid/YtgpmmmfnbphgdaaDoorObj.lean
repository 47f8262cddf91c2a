/- Objects of a call's own that lie in several blocks: footprints, worlds that turned only there; slices whose elements lead on to memory. No program in sight. -/
import Derived.Test.YtgpmmmfnbphgdaaDoorOwn
namespace Go.Proofs.YtgpmmmfnbphgdaaDoor
open Go.RowKit
set_option linter.unusedVariables false
set_option linter.unusedSimpArgs false

/-- a slice value -/
structure Sv where
  A : Option Addr
  n : Nat
  c : Nat
/-- the blocks of a slice -/
def obl (A : Option Addr) : List Nat := (ob A).toList
theorem mem_obl {A : Option Addr} {k : Nat} : k ∈ obl A ↔ ob A = some k := by
  unfold obl; cases ob A <;> simp [eq_comm]
theorem obl_some (g off : Nat) : obl (some ⟨g, off, none⟩) = [g] := rfl
theorem obl_none : obl none = [] := rfl
/-- w' is w with new blocks, and writes to the blocks fs alone -/
structure Upd (fs : List Nat) (w w' : World) : Prop where
  os : w'.os = w.os
  tape : w'.tape = w.tape
  output : w'.output = w.output
  size : w.heap.size ≤ w'.heap.size
  block : ∀ k, k < w.heap.size → k ∉ fs → w'.heap[k]? = w.heap[k]?
theorem Upd.refl (fs : List Nat) (w : World) : Upd fs w w := ⟨rfl, rfl, rfl, Nat.le_refl _, fun _ _ _ => rfl⟩
theorem Upd.trans {fs : List Nat} {a b c : World} (h : Upd fs a b) (k : Upd fs b c) : Upd fs a c :=
  ⟨k.os.trans h.os, k.tape.trans h.tape, k.output.trans h.output, Nat.le_trans h.size k.size, fun i hi hn => (k.block i (Nat.lt_of_lt_of_le hi h.size) hn).trans (h.block i hi hn)⟩
theorem Upd.mono {fs fs' : List Nat} {a b : World} (h : Upd fs a b) (hs : ∀ k ∈ fs, k ∈ fs') : Upd fs' a b :=
  ⟨h.os, h.tape, h.output, h.size, fun i hi hn => h.block i hi (fun hm => hn (hs i hm))⟩
theorem Upd.of_below {fs : List Nat} {a b : World} (h : Below a.heap.size a b) : Upd fs a b :=
  ⟨h.os, h.tape, h.output, h.size, fun i hi _ => h.block i hi⟩
theorem Upd.of_grown {fs : List Nat} {a b : World} {row : Option Nat} (h : a.grownBy b row) (hr : ∀ k, row = some k → k ∈ fs) : Upd fs a b :=
  ⟨h.os, h.tape, h.output, h.size, fun i hi hn => h.block i hi (fun e => hn (hr i e.symm))⟩
theorem Upd.then_below {fs : List Nat} {a b c : World} (h : Upd fs a b) (k : Below b.heap.size b c) : Upd fs a c := h.trans (Upd.of_below k)
theorem Upd.then_drew {fs : List Nat} {a b : World} (h : Upd fs a b) : Upd fs a b.drew := ⟨h.os, h.tape, h.output, h.size, h.block⟩
theorem Upd.set_in {fs : List Nat} {a w : World} (h : Upd fs a w) {p : Addr} (hp : p.block ∈ fs) (u : Value) : Upd fs a (w.setCell p u) :=
  ⟨h.os, h.tape, h.output, by simpa [World.setCell] using h.size, fun k hk hn => (Below.heap_setCell _ _ _ _ (fun e => hn (by rw [e]; exact hp))).trans (h.block k hk hn)⟩
theorem Upd.set_new {fs : List Nat} {a w : World} (h : Upd fs a w) {p : Addr} (hp : a.heap.size ≤ p.block) (u : Value) : Upd fs a (w.setCell p u) :=
  ⟨h.os, h.tape, h.output, by simpa [World.setCell] using h.size, fun k hk hn => (Below.heap_setCell _ _ _ _ (by omega)).trans (h.block k hk hn)⟩
theorem Upd.alloc_ {fs : List Nat} {a w : World} (h : Upd fs a w) (o : Obj) : Upd fs a (w.alloc o) := h.then_below (bAlloc (Below.refl _ _) o)
theorem Upd.apart {B e sz n c : Nat} {w : World} {A : Option Addr} {css : List (List Value)} (h : Own w B e sz A n c css) {fs : List Nat} (hf : ∀ k ∈ fs, k < B) : ∀ k ∈ obl A, k ∉ fs :=
  fun k hk hm => by have := (h.lt k (mem_obl.1 hk)).1; have := hf k hm; omega
theorem bUpd {fs : List Nat} {a w w' : World} (h : Below a.heap.size a w) (hu : Upd fs w w') (hf : ∀ k ∈ fs, a.heap.size ≤ k) : Below a.heap.size a w' :=
  h.trans ⟨hu.os, hu.tape, hu.output, hu.size, fun k hk => hu.block k (Nat.lt_of_lt_of_le hk h.size) (fun hm => by have := hf k hm; omega)⟩

/-- blocks from B on, that are there, each once -/
structure Fresh (B : Nat) (w : World) (fs : List Nat) : Prop where
  nodup : fs.Nodup
  lo : ∀ g ∈ fs, B ≤ g
  hi : ∀ g ∈ fs, g < w.heap.size
theorem Fresh.grow {B : Nat} {w w' : World} {fs : List Nat} (h : Fresh B w fs) (hs : w.heap.size ≤ w'.heap.size) : Fresh B w' fs := ⟨h.nodup, h.lo, fun g hg => Nat.lt_of_lt_of_le (h.hi g hg) hs⟩
theorem Fresh.rebase {B B' : Nat} {w : World} {fs : List Nat} (h : Fresh B w fs) (hb : B' ≤ B) : Fresh B' w fs := ⟨h.nodup, fun g hg => Nat.le_trans hb (h.lo g hg), h.hi⟩
theorem Fresh.nil (B : Nat) (w : World) : Fresh B w [] := ⟨List.nodup_nil, by simp, by simp⟩
theorem Fresh.append {B B2 : Nat} {w : World} {fs gs : List Nat} (h : Fresh B w fs) (k : Fresh B2 w gs) (hb : B ≤ B2) (hf : ∀ g ∈ fs, g < B2) : Fresh B w (fs ++ gs) :=
  ⟨List.nodup_append.2 ⟨h.nodup, k.nodup, fun a ha b hb' e => by subst e; have := hf a ha; have := k.lo a hb'; omega⟩,
   fun g hg => by rcases List.mem_append.1 hg with h1 | h1; exact h.lo g h1; exact Nat.le_trans hb (k.lo g h1),
   fun g hg => by rcases List.mem_append.1 hg with h1 | h1; exact h.hi g h1; exact k.hi g h1⟩
theorem Fresh.then_ {B B2 : Nat} {w wF : World} {fs gs : List Nat} (h : Fresh B w fs) (k : Fresh B2 wF gs) (h1 : B ≤ B2) (h2 : w.heap.size ≤ B2) (h3 : w.heap.size ≤ wF.heap.size) : Fresh B wF (fs ++ gs) :=
  (h.grow h3).append k h1 fun g hg => Nat.lt_of_lt_of_le (h.hi g hg) h2
theorem Fresh.left {B : Nat} {w : World} {fs gs : List Nat} (h : Fresh B w (fs ++ gs)) : Fresh B w fs :=
  ⟨(List.nodup_append.1 h.nodup).1, fun g hg => h.lo g (List.mem_append.2 (.inl hg)), fun g hg => h.hi g (List.mem_append.2 (.inl hg))⟩
theorem Fresh.right {B : Nat} {w : World} {fs gs : List Nat} (h : Fresh B w (fs ++ gs)) : Fresh B w gs :=
  ⟨(List.nodup_append.1 h.nodup).2.1, fun g hg => h.lo g (List.mem_append.2 (.inr hg)), fun g hg => h.hi g (List.mem_append.2 (.inr hg))⟩
theorem Fresh.apart {B : Nat} {w : World} {fs gs : List Nat} (h : Fresh B w (fs ++ gs)) : ∀ k ∈ fs, k ∉ gs := fun k hk hk2 => (List.nodup_append.1 h.nodup).2.2 k hk k hk2 rfl
theorem Fresh.obl_ {B e sz n c : Nat} {w : World} {A : Option Addr} {css : List (List Value)} (h : Own w B e sz A n c css) : Fresh B w (obl A) :=
  ⟨by unfold obl; cases ob A <;> simp, fun g hg => (h.lt g (mem_obl.1 hg)).1, fun g hg => (h.lt g (mem_obl.1 hg)).2⟩
theorem Own.upd {B e sz n c : Nat} {w w' : World} {A : Option Addr} {css : List (List Value)} {fs : List Nat} (h : Own w B e sz A n c css) (hu : Upd fs w w') (hd : ∀ k ∈ obl A, k ∉ fs) : Own w' B e sz A n c css :=
  h.keep fun g hg => hu.block g (h.lt g hg).2 (hd g (mem_obl.2 hg))
theorem Own.zero {B e sz n c : Nat} {w : World} {A : Option Addr} {css : List (List Value)} (h : Own w B e sz A n c css) : Own w 0 e sz A n c css := h.rebase (Nat.zero_le _)
theorem Own.from_ {B B' e sz n c : Nat} {w : World} {A : Option Addr} {css : List (List Value)} (h : Own w B e sz A n c css) (hb : ∀ g ∈ obl A, B' ≤ g) : Own w B' e sz A n c css := by
  refine ⟨⟨h.own.1, ?_⟩, h.len, h.each⟩
  rcases h.own.2 with hn | ⟨g, cap, cur, hv, _, r⟩
  · exact .inl hn
  · refine .inr ⟨g, cap, cur, hv, hb g ?_, r⟩
    simp only [Value.slice.injEq] at hv
    rw [hv.1]; simp [obl, ob]

/-- a box is read behind a call that wrote another block -/
theorem gBox {w w' : World} {row : Option Nat} (hg : w.grownBy w' row) (b : Nat) (hb : b < w.heap.size) (hne : ∀ k, row = some k → k ≠ b) : ∀ o, w'.cell? ⟨b, o, none⟩ = w.cell? ⟨b, o, none⟩ :=
  fun o => World.cell?_of_block (a := ⟨b, o, none⟩) (hg.block b hb (fun e => hne b e.symm rfl))
theorem uBox {fs : List Nat} {w w' : World} (hg : Upd fs w w') (b : Nat) (hb : b < w.heap.size) (hne : b ∉ fs) : ∀ o, w'.cell? ⟨b, o, none⟩ = w.cell? ⟨b, o, none⟩ :=
  fun o => World.cell?_of_block (a := ⟨b, o, none⟩) (hg.block b hb hne)
theorem uBoxF {fs : List Nat} {w w' : World} (hg : Upd fs w w') (b : Nat) (hb : b < w.heap.size) (hne : b ∉ fs) : ∀ o, w'.frozen? ⟨b, o, none⟩ = w.frozen? ⟨b, o, none⟩ :=
  fun o => World.frozen?_of_block (a := ⟨b, o, none⟩) (hg.block b hb hne)
theorem Upd.of_row {A : Option Addr} {a b : World} (h : a.grownBy b (ob A)) : Upd (obl A) a b := Upd.of_grown h fun k hk => mem_obl.2 hk
theorem Row.new1' (w : World) (t : TypeId) (cs : List Value) (sz a : Nat) (h : a = w.heap.size) : Row (w.alloc (.cells cs.toArray t)) (some ⟨a, 0, none⟩) 1 sz [cs] := by subst h; exact Row.new1 w t cs sz
/-! ### element by element -/
variable {α : Type}
/-- the i-th cells read as the i-th datum, with the i-th footprint -/
def Each (K : List Nat → List Value → α → Prop) : List (List Nat) → List (List Value) → List α → Prop
  | [], [], [] => True
  | f :: fs, c :: cs, x :: xs => K f c x ∧ Each K fs cs xs
  | _, _, _ => False
theorem Each.lens {K : List Nat → List Value → α → Prop} : ∀ {fss : List (List Nat)} {css : List (List Value)} {l : List α}, Each K fss css l → fss.length = l.length ∧ css.length = l.length
  | [], [], [], _ => ⟨rfl, rfl⟩
  | _ :: _, _ :: _, _ :: _, h => by have := Each.lens h.2; simp [this.1, this.2]
theorem Each.at_ {K : List Nat → List Value → α → Prop} : ∀ {fss : List (List Nat)} {css : List (List Value)} {l : List α} {i : Nat} {x : α}, Each K fss css l → l[i]? = some x → ∃ f cs, fss[i]? = some f ∧ css[i]? = some cs ∧ K f cs x
  | [], [], [], _, _, _, hx => by simp at hx
  | f :: _, c :: _, y :: _, 0, x, h, hx => by simp only [List.getElem?_cons_zero, Option.some.injEq] at hx; subst hx; exact ⟨f, c, rfl, rfl, h.1⟩
  | _ :: _, _ :: _, _ :: _, i + 1, x, h, hx => by
    simp only [List.getElem?_cons_succ] at hx
    obtain ⟨f, cs, h1, h2, h3⟩ := Each.at_ h.2 hx
    exact ⟨f, cs, by simpa using h1, by simpa using h2, h3⟩
theorem Each.imp {K K' : List Nat → List Value → α → Prop} : ∀ {fss : List (List Nat)} {css : List (List Value)} {l : List α}, Each K fss css l → (∀ (i : Nat) (f : List Nat) (cs : List Value) (x : α), fss[i]? = some f → css[i]? = some cs → l[i]? = some x → K f cs x → K' f cs x) → Each K' fss css l
  | [], [], [], _, _ => trivial
  | f :: _, c :: _, y :: _, h, hk => ⟨hk 0 f c y rfl rfl rfl h.1, Each.imp h.2 fun i f cs x h1 h2 h3 => hk (i + 1) f cs x (by simpa using h1) (by simpa using h2) (by simpa using h3)⟩
theorem Each.set_ {K : List Nat → List Value → α → Prop} : ∀ {fss : List (List Nat)} {css : List (List Value)} {l : List α} {i : Nat} {f : List Nat} {cs : List Value} {x : α}, Each K fss css l → fss[i]? = some f → K f cs x → Each K fss (css.set i cs) (l.set i x)
  | _ :: _, _ :: _, _ :: _, 0, f, cs, x, h, hf, hk => by simp only [List.getElem?_cons_zero, Option.some.injEq] at hf; subst hf; exact ⟨hk, h.2⟩
  | _ :: _, _ :: _, _ :: _, i + 1, f, cs, x, h, hf, hk => ⟨h.1, Each.set_ h.2 (by simpa using hf) hk⟩
theorem Each.setF {K : List Nat → List Value → α → Prop} : ∀ {fss : List (List Nat)} {css : List (List Value)} {l : List α} {i : Nat} {f : List Nat} {cs : List Value} {x : α}, Each K fss css l → K f cs x → Each K (fss.set i f) (css.set i cs) (l.set i x)
  | [], [], [], i, _, _, _, _, _ => trivial
  | _ :: _, _ :: _, _ :: _, 0, f, cs, x, h, hk => ⟨hk, h.2⟩
  | _ :: _, _ :: _, _ :: _, i + 1, f, cs, x, h, hk => ⟨h.1, Each.setF h.2 hk⟩
theorem Each.append {K : List Nat → List Value → α → Prop} : ∀ {fss gss : List (List Nat)} {css dss : List (List Value)} {l m : List α}, Each K fss css l → Each K gss dss m → Each K (fss ++ gss) (css ++ dss) (l ++ m)
  | [], _, [], _, [], _, _, h => h
  | _ :: _, _, _ :: _, _, _ :: _, _, h, k => ⟨h.1, Each.append h.2 k⟩
theorem Each.drop_ {K : List Nat → List Value → α → Prop} : ∀ {fss : List (List Nat)} {css : List (List Value)} {l : List α} (i : Nat), Each K fss css l → Each K (fss.drop i) (css.drop i) (l.drop i)
  | _, _, _, 0, h => h
  | [], [], [], i + 1, h => trivial
  | _ :: _, _ :: _, _ :: _, i + 1, h => Each.drop_ i h.2
theorem Each.one {K : List Nat → List Value → α → Prop} {f : List Nat} {cs : List Value} {x : α} (h : K f cs x) : Each K [f] [cs] [x] := ⟨h, trivial⟩
theorem Each.replicate {K : List Nat → List Value → α → Prop} {f : List Nat} {cs : List Value} {x : α} (h : K f cs x) : ∀ n, Each K (List.replicate n f) (List.replicate n cs) (List.replicate n x)
  | 0 => trivial
  | n + 1 => ⟨h, Each.replicate h n⟩
theorem Each.of_map {c : α → List Value} : ∀ (l : List α), Each (fun _ cs x => cs = c x) (List.replicate l.length []) (l.map c) l
  | [] => trivial
  | x :: l => ⟨rfl, Each.of_map l⟩
theorem Each.map_of {c : α → List Value} {K : List Nat → List Value → α → Prop} : ∀ {fss : List (List Nat)} {css : List (List Value)} {l : List α}, Each K fss css l → (∀ f cs x, K f cs x → cs = c x) → css = l.map c
  | [], [], [], _, _ => rfl
  | _ :: _, _ :: _, _ :: _, h, hk => by rw [List.map_cons, ← Each.map_of h.2 hk, ← hk _ _ _ h.1]
theorem mem_flat {fss : List (List Nat)} {i : Nat} {f : List Nat} (h : fss[i]? = some f) {k : Nat} (hk : k ∈ f) : k ∈ fss.flatten := List.mem_flatten.2 ⟨f, List.mem_of_getElem? h, hk⟩
theorem flat_nodup : ∀ {fss : List (List Nat)} {f : List Nat}, fss.flatten.Nodup → f ∈ fss → f.Nodup
  | a :: r, f, hn, hf => by
    rw [List.flatten_cons] at hn
    rcases List.mem_cons.1 hf with rfl | hf
    · exact (List.nodup_append.1 hn).1
    · exact flat_nodup (List.nodup_append.1 hn).2.1 hf
/-- two elements of a list without repetition lie apart -/
theorem flat_apart : ∀ {fss : List (List Nat)} {i j : Nat} {f g : List Nat}, fss.flatten.Nodup → fss[i]? = some f → fss[j]? = some g → i ≠ j → ∀ k ∈ f, k ∉ g
  | a :: r, 0, 0, f, g, hn, hi, hj, hne => absurd rfl hne
  | a :: r, 0, j + 1, f, g, hn, hi, hj, hne => fun k hk hg => by
    simp only [List.getElem?_cons_zero, Option.some.injEq] at hi; subst hi
    simp only [List.getElem?_cons_succ] at hj
    rw [List.flatten_cons] at hn
    exact (List.nodup_append.1 hn).2.2 k hk k (mem_flat hj hg) rfl
  | a :: r, i + 1, 0, f, g, hn, hi, hj, hne => fun k hk hg => by
    simp only [List.getElem?_cons_zero, Option.some.injEq] at hj; subst hj
    simp only [List.getElem?_cons_succ] at hi
    rw [List.flatten_cons] at hn
    exact (List.nodup_append.1 hn).2.2 k hg k (mem_flat hi hk) rfl
  | a :: r, i + 1, j + 1, f, g, hn, hi, hj, hne => by
    simp only [List.getElem?_cons_succ] at hi hj
    rw [List.flatten_cons] at hn
    exact flat_apart (List.nodup_append.1 hn).2.1 hi hj (by omega)

/-- a way of reading an element's cells that looks at the blocks of its footprint alone -/
structure Loc (K : World → List Nat → List Value → α → Prop) : Prop where
  keep : ∀ {w w' : World} {f : List Nat} {cs : List Value} {x : α}, K w f cs x → (∀ k ∈ f, w'.heap[k]? = w.heap[k]?) → K w' f cs x
  lt : ∀ {w : World} {f : List Nat} {cs : List Value} {x : α}, K w f cs x → ∀ k ∈ f, k < w.heap.size
/-- a slice of a call's own whose elements have memory of their own -/
def OwSl (K : World → List Nat → List Value → α → Prop) (w : World) (fs : List Nat) (e sz : Nat) (A : Option Addr) (n c : Nat) (l : List α) : Prop :=
  ∃ css fss, Own w 0 e sz A n c css ∧ Each (K w) fss css l ∧ fs = obl A ++ fss.flatten
theorem OwSl.len {K : World → List Nat → List Value → α → Prop} {w : World} {fs : List Nat} {e sz n c : Nat} {A : Option Addr} {l : List α} (h : OwSl K w fs e sz A n c l) : Hid (l.length = n) := by
  obtain ⟨css, fss, h1, h2, _⟩ := h
  exact (h2.lens.2.symm.trans h1.len)
theorem Each.lt_ {K : World → List Nat → List Value → α → Prop} (hK : Loc K) {w : World} {fss : List (List Nat)} {css : List (List Value)} {l : List α} (h : Each (K w) fss css l) : ∀ k ∈ fss.flatten, k < w.heap.size := by
  intro k hk
  obtain ⟨f, hf, hkf⟩ := List.mem_flatten.1 hk
  obtain ⟨i, hi, rfl⟩ := List.mem_iff_getElem.1 hf
  have hl := h.lens
  obtain ⟨f', cs, h1, _, h3⟩ := h.at_ (i := i) (x := l[i]'(by omega)) (List.getElem?_eq_getElem _)
  rw [List.getElem?_eq_getElem hi] at h1
  obtain rfl := Option.some.inj h1
  exact hK.lt h3 k hkf
theorem Each.keep_ {K : World → List Nat → List Value → α → Prop} (hK : Loc K) {w w' : World} {fss : List (List Nat)} {css : List (List Value)} {l : List α} (h : Each (K w) fss css l) (hw : ∀ k ∈ fss.flatten, w'.heap[k]? = w.heap[k]?) : Each (K w') fss css l :=
  h.imp fun i f cs x h1 _ _ hk => hK.keep hk fun k hkf => hw k (mem_flat h1 hkf)
theorem OwSl.keep {K : World → List Nat → List Value → α → Prop} (hK : Loc K) {w w' : World} {fs : List Nat} {e sz n c : Nat} {A : Option Addr} {l : List α} (h : OwSl K w fs e sz A n c l) (hw : ∀ k ∈ fs, w'.heap[k]? = w.heap[k]?) : OwSl K w' fs e sz A n c l := by
  obtain ⟨css, fss, h1, h2, rfl⟩ := h
  exact ⟨css, fss, h1.keep fun g hg => hw g (List.mem_append.2 (.inl (mem_obl.2 hg))), h2.keep_ hK fun k hk => hw k (List.mem_append.2 (.inr hk)), rfl⟩
theorem OwSl.lt {K : World → List Nat → List Value → α → Prop} (hK : Loc K) {w : World} {fs : List Nat} {e sz n c : Nat} {A : Option Addr} {l : List α} (h : OwSl K w fs e sz A n c l) : ∀ k ∈ fs, k < w.heap.size := by
  obtain ⟨css, fss, h1, h2, rfl⟩ := h
  intro k hk
  rcases List.mem_append.1 hk with hk | hk
  · exact (h1.lt k (mem_obl.1 hk)).2
  · exact h2.lt_ hK k hk
theorem OwSl.below {K : World → List Nat → List Value → α → Prop} (hK : Loc K) {w w' : World} {fs : List Nat} {e sz n c : Nat} {A : Option Addr} {l : List α} (h : OwSl K w fs e sz A n c l) (hb : Below w.heap.size w w') : OwSl K w' fs e sz A n c l :=
  h.keep hK fun k hk => hb.block k (h.lt hK k hk)
theorem OwSl.upd {K : World → List Nat → List Value → α → Prop} (hK : Loc K) {w w' : World} {fs gs : List Nat} {e sz n c : Nat} {A : Option Addr} {l : List α} (h : OwSl K w fs e sz A n c l) (hu : Upd gs w w') (hd : ∀ k ∈ fs, k ∉ gs) : OwSl K w' fs e sz A n c l :=
  h.keep hK fun k hk => hu.block k (h.lt hK k hk) (hd k hk)
/-- a slice whose elements read through -/
def RdSl (R : World → List Value → α → Prop) (w : World) (A : Option Addr) (n sz : Nat) (l : List α) : Prop :=
  ∃ css fss, Row w A n sz css ∧ Each (fun _ cs x => R w cs x) fss css l
theorem RdSl.len {R : World → List Value → α → Prop} {w : World} {A : Option Addr} {n sz : Nat} {l : List α} (h : RdSl R w A n sz l) : Hid (l.length = n) := by
  obtain ⟨css, fss, h1, h2⟩ := h
  exact (h2.lens.2.symm.trans h1.1)
theorem RdSl.below {R : World → List Value → α → Prop} (hR : ∀ {w w' : World} {cs : List Value} {x : α}, R w cs x → Below w.heap.size w w' → R w' cs x) {w w' : World} {A : Option Addr} {n sz : Nat} {l : List α} (h : RdSl R w A n sz l) (hb : Below w.heap.size w w') : RdSl R w' A n sz l := by
  obtain ⟨css, fss, h1, h2⟩ := h
  exact ⟨css, fss, h1.below hb, h2.imp fun i f cs x _ _ _ hk => hR hk hb⟩
theorem RdSl.at_ {R : World → List Value → α → Prop} {w : World} {A : Option Addr} {n sz : Nat} {l : List α} (h : RdSl R w A n sz l) {k : Nat} (hk : k < n) :
    ∃ (x : α) (cs : List Value) (g off : Nat), Hid (l[k]? = some x) ∧ A = some ⟨g, off, none⟩ ∧ R w cs x ∧ ∀ j v, cs[j]? = some v → w.cell? ⟨g, off + k * sz + j, none⟩ = some v := by
  have hl : l.length = n := h.len
  obtain ⟨css, fss, h1, h2⟩ := h
  obtain ⟨f, cs, _, h4, h5⟩ := h2.at_ (i := k) (x := l[k]'(by omega)) (List.getElem?_eq_getElem _)
  obtain ⟨g, off, hA, hc⟩ := h1.2 k cs h4
  exact ⟨l[k]'(by omega), cs, g, off, by simp [Hid], hA, h5, hc⟩
theorem OwSl.rd {K : World → List Nat → List Value → α → Prop} {R : World → List Value → α → Prop} (hKR : ∀ {w : World} {f : List Nat} {cs : List Value} {x : α}, K w f cs x → R w cs x) {w : World} {fs : List Nat} {e sz n c : Nat} {A : Option Addr} {l : List α} (h : OwSl K w fs e sz A n c l) : RdSl R w A n sz l := by
  obtain ⟨css, fss, h1, h2, _⟩ := h
  exact ⟨css, fss, h1.row, h2.imp fun i f cs x _ _ _ hk => hKR hk⟩
theorem Each.put {K K' : List Nat → List Value → α → Prop} : ∀ {fss : List (List Nat)} {css : List (List Value)} {l : List α} {i : Nat} {f : List Nat} {cs' : List Value} {x' : α}, Each K fss css l → fss[i]? = some f → K' f cs' x' →
    (∀ (j : Nat) (f2 : List Nat) (cs2 : List Value) (x2 : α), j ≠ i → fss[j]? = some f2 → css[j]? = some cs2 → l[j]? = some x2 → K f2 cs2 x2 → K' f2 cs2 x2) → Each K' fss (css.set i cs') (l.set i x')
  | a :: r, c :: cr, y :: lr, 0, f, cs', x', he, hf, hk', hall => by
    simp only [List.getElem?_cons_zero, Option.some.injEq] at hf
    subst hf
    exact ⟨hk', he.2.imp fun j f2 cs2 x2 h1 h2 h3 h4 => hall (j + 1) f2 cs2 x2 (by omega) (by simpa using h1) (by simpa using h2) (by simpa using h3) h4⟩
  | a :: r, c :: cr, y :: lr, i + 1, f, cs', x', he, hf, hk', hall =>
    ⟨hall 0 a c y (by omega) rfl rfl rfl he.1, Each.put he.2 (by simpa using hf) hk' fun j f2 cs2 x2 hne h1 h2 h3 h4 => hall (j + 1) f2 cs2 x2 (by omega) (by simpa using h1) (by simpa using h2) (by simpa using h3) h4⟩
/-- element i of a slice of the call's own, to be written: what it is, and how the slice is got back -/
theorem OwSl.focus {K : World → List Nat → List Value → α → Prop} (hK : Loc K) {w : World} {fs : List Nat} {e sz n c : Nat} {A : Option Addr} {l : List α} (h : OwSl K w fs e sz A n c l) (hn : fs.Nodup) {i : Nat} {x : α} (hx : l[i]? = some x) :
    ∃ css f cs g, Own w 0 e sz A n c css ∧ css[i]? = some cs ∧ K w f cs x ∧ A = some ⟨g, 0, none⟩ ∧ g ∉ f ∧ g ∈ fs ∧ (∀ k ∈ f, k ∈ fs) ∧ f.Nodup ∧
      (∀ w' cs' x', Own w' 0 e sz A n c (css.set i cs') → K w' f cs' x' → Upd (g :: f) w w' → OwSl K w' fs e sz A n c (l.set i x')) := by
  obtain ⟨css, fss, h1, h2, rfl⟩ := h
  obtain ⟨f, cs, hf, hcs, hk⟩ := h2.at_ hx
  obtain ⟨hno, hnf, hna⟩ := List.nodup_append.1 hn
  rcases h1.cases with ⟨_, _, _, rfl⟩ | ⟨g, rfl, _, hgl, _⟩
  · simp at hcs
  · have hgo : g ∈ obl (some ⟨g, 0, none⟩) := by simp [obl, ob]
    have hgf : g ∉ fss.flatten := fun hm => hna g hgo g hm rfl
    refine ⟨css, f, cs, g, h1, hcs, hk, rfl, fun hm => hgf (mem_flat hf hm), List.mem_append.2 (.inl hgo), fun k hk => List.mem_append.2 (.inr (mem_flat hf hk)), ?_, fun w' cs' x' ho hk' hu => ?_⟩
    · exact flat_nodup hnf (List.mem_of_getElem? hf)
    · refine ⟨css.set i cs', fss, ho, h2.put hf hk' fun j f2 cs2 x2 hne h3 _ _ hk2 => ?_, rfl⟩
      refine hK.keep hk2 fun k hkf => hu.block k (hK.lt hk2 k hkf) ?_
      simp only [List.mem_cons, not_or]
      exact ⟨fun e => hgf (by rw [← e]; exact mem_flat h3 hkf), flat_apart hnf h3 hf hne k hkf⟩
/-- one element more: its blocks are new -/
theorem OwSl.nil_ {K : World → List Nat → List Value → α → Prop} (w : World) (e sz : Nat) : OwSl K w [] e sz none 0 0 [] := ⟨[], [], Own.nil_ _ _ _ _, trivial, rfl⟩
theorem loc_flat (c : α → List Value) : Loc (fun (_ : World) (f : List Nat) (cs : List Value) (x : α) => f = [] ∧ cs = c x) := ⟨fun h _ => h, fun h k hk => by rw [h.1] at hk; cases hk⟩
end Go.Proofs.YtgpmmmfnbphgdaaDoor
