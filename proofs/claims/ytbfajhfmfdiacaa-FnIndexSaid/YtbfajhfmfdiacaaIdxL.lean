/- BuildIndex: the plain law: entries put in one by one, and parts sorted one by one, are the same list. -/
import Derived.Test.YtbfajhfmfdiacaaSort
import Derived.Test.YtbfajhfmfdiacaaNums
import Derived.Test.YtbfajhfmfdiacaaPlaces
import Derived.Test.YtbfajhfmfdiacaaIdx
namespace Go.Proofs.Ytbfajhfmfdiacaa
open Go.RowKit
set_option linter.unusedVariables false
set_option linter.unusedSimpArgs false
set_option maxHeartbeats 1600000
set_option maxRecDepth 100000
def ltE (a b : PlaceEntry) : Prop := a.chunk < b.chunk ∨ a.chunk = b.chunk ∧ (a.key < b.key ∨ a.key = b.key ∧ a.place < b.place)
instance (a b : PlaceEntry) : Decidable (ltE a b) := by unfold ltE; infer_instance
theorem ltE_asymm {a b : PlaceEntry} (h : ltE a b) : ¬ ltE b a := by unfold ltE at *; omega
theorem ltE_trans {a b c : PlaceEntry} (h : ltE a b) (h2 : ltE b c) : ltE a c := by unfold ltE at *; omega
theorem ltE_total {a b : PlaceEntry} (h : ¬ ltE a b) (hne : a ≠ b) : ltE b a := by
  obtain ⟨a1, a2, a3⟩ := a; obtain ⟨b1, b2, b3⟩ := b
  unfold ltE at *
  simp only [ne_eq, PlaceEntry.mk.injEq] at hne
  simp only at *
  omega
def AscE (L : List PlaceEntry) : Prop := L.Pairwise ltE
theorem eq_of_asc : ∀ {a b : List PlaceEntry}, AscE a → AscE b → (∀ x, x ∈ a ↔ x ∈ b) → a = b
  | [], [], _, _, _ => rfl
  | [], y :: b, _, _, h => by have := (h y).2 (by simp); simp at this
  | x :: a, [], _, _, h => by have := (h x).1 (by simp); simp at this
  | x :: a, y :: b, ha, hb, h => by
    obtain ⟨ha1, ha2⟩ := List.pairwise_cons.1 ha
    obtain ⟨hb1, hb2⟩ := List.pairwise_cons.1 hb
    have e : x = y := by
      rcases List.mem_cons.1 ((h x).1 (by simp)) with e | hx
      · exact e
      · rcases List.mem_cons.1 ((h y).2 (by simp)) with e | hy
        · exact e.symm
        · exact absurd (hb1 x hx) (ltE_asymm (ha1 y hy))
    subst e
    congr 1
    refine eq_of_asc ha2 hb2 fun z => ⟨fun hz => ?_, fun hz => ?_⟩
    · rcases List.mem_cons.1 ((h z).1 (by simp [hz])) with e | h2
      · subst e; exact absurd (ha1 z hz) (fun h3 => ltE_asymm h3 h3)
      · exact h2
    · rcases List.mem_cons.1 ((h z).2 (by simp [hz])) with e | h2
      · subst e; exact absurd (hb1 z hz) (fun h3 => ltE_asymm h3 h3)
      · exact h2
/-- the entries of part k of the places, from place i on -/
def part (k : Int) : Nat → List Place → List PlaceEntry
  | _, [] => []
  | i, p :: r => ⟨k, chunkV p.bits k, i⟩ :: part k (i + 1) r
theorem part_snoc (k : Int) (p : Place) : ∀ (l : List Place) (i : Nat), part k i (l ++ [p]) = part k i l ++ [⟨k, chunkV p.bits k, ((i + l.length : Nat) : Int)⟩]
  | [], i => by simp [part]
  | q :: l, i => by simp only [List.cons_append, part, part_snoc k p l (i + 1), List.length_cons]; congr 4; omega
theorem part_len (k : Int) : ∀ (l : List Place) (i : Nat), (part k i l).length = l.length
  | [], _ => rfl
  | _ :: l, i => by simp [part, part_len k l (i + 1)]
theorem part_mem {k : Int} {e : PlaceEntry} : ∀ {l : List Place} {i : Nat}, e ∈ part k i l ↔ ∃ j p, l[j]? = some p ∧ e = ⟨k, chunkV p.bits k, ((i + j : Nat) : Int)⟩
  | [], i => by simp [part]
  | q :: l, i => by
    simp only [part, List.mem_cons, part_mem (l := l) (i := i + 1)]
    constructor
    · rintro (rfl | ⟨j, p, h, rfl⟩)
      · exact ⟨0, q, rfl, rfl⟩
      · exact ⟨j + 1, p, by simpa using h, by congr 2; omega⟩
    · rintro ⟨j, p, h, rfl⟩
      rcases j with _ | j
      · left; simp at h; subst h; rfl
      · right; exact ⟨j, p, by simpa using h, by congr 2; omega⟩
def PlE (i : Nat) (L : List PlaceEntry) : Prop := ∀ e ∈ L, e.place < i
theorem srt_asc {k : Int} {l : List PlaceEntry} (h1 : l.Pairwise (fun a b => a.place < b.place)) (h2 : ∀ e ∈ l, e.chunk = k) : AscE (srt PlaceEntry.key l) := by
  have : ∀ (l P : List PlaceEntry), l.Pairwise (fun a b => a.place < b.place) → (∀ e ∈ l, e.chunk = k) → (∀ e ∈ P, e.chunk = k) → (∀ a ∈ P, ∀ b ∈ l, a.place < b.place) → AscE P → AscE (l.foldl (fun P x => insR PlaceEntry.key x P) P) := by
    intro l
    induction l with
    | nil => intro P _ _ _ _ h; exact h
    | cons x l ih =>
      intro P hp hc hc2 hlt ha
      obtain ⟨hp1, hp2⟩ := List.pairwise_cons.1 hp
      rw [List.foldl_cons]
      refine ih _ hp2 (fun e he => hc e (by simp [he])) (fun e he => ?_) (fun a ha2 b hb => ?_) ?_
      · rcases (insR_mem PlaceEntry.key).1 he with rfl | he
        · exact hc _ (by simp)
        · exact hc2 e he
      · rcases (insR_mem PlaceEntry.key).1 ha2 with rfl | he
        · exact hp1 b hb
        · exact hlt a he b (by simp [hb])
      · unfold AscE insR at *
        rw [List.pairwise_append]
        refine ⟨ha.filter _, List.pairwise_cons.2 ⟨fun b hb => ?_, ha.filter _⟩, fun a ha3 b hb => ?_⟩
        · simp only [List.mem_filter, decide_eq_true_eq] at hb
          have e1 := hc x (by simp); have e2 := hc2 b hb.1
          unfold ltE; omega
        · simp only [List.mem_filter, decide_eq_true_eq] at ha3
          have e2 := hc2 a ha3.1
          rcases List.mem_cons.1 hb with rfl | hb
          · have e1 := hc b (by simp); have := hlt a ha3.1 b (by simp)
            unfold ltE; omega
          · simp only [List.mem_filter, decide_eq_true_eq] at hb
            have e1 := hc2 b hb.1
            unfold ltE; omega
  exact this l [] h1 h2 (by simp) (by simp) List.Pairwise.nil
theorem part_places (k : Int) : ∀ (l : List Place) (i : Nat), (part k i l).Pairwise (fun a b => a.place < b.place)
  | [], _ => List.Pairwise.nil
  | p :: l, i => by
    refine List.pairwise_cons.2 ⟨fun e he => ?_, part_places k l (i + 1)⟩
    obtain ⟨j, q, _, rfl⟩ := part_mem.1 he
    simp only; omega
/-- part by part, each sorted -/
def ents (l : List Place) : Nat → List PlaceEntry
  | 0 => []
  | K + 1 => ents l K ++ srt PlaceEntry.key (part K 0 l)
theorem ents_mem {l : List Place} {e : PlaceEntry} : ∀ {K : Nat}, e ∈ ents l K ↔ ∃ k j p, k < K ∧ l[j]? = some p ∧ e = ⟨(k : Nat), chunkV p.bits (k : Nat), (j : Nat)⟩
  | 0 => by simp [ents]
  | K + 1 => by
    rw [ents, List.mem_append, srt_mem, ents_mem, part_mem]
    constructor
    · rintro (⟨k, j, p, hk, hj, rfl⟩ | ⟨j, p, hj, rfl⟩)
      · exact ⟨k, j, p, by omega, hj, rfl⟩
      · exact ⟨K, j, p, by omega, hj, by simp⟩
    · rintro ⟨k, j, p, hk, hj, rfl⟩
      by_cases h : k < K
      · exact .inl ⟨k, j, p, h, hj, rfl⟩
      · obtain rfl : k = K := by omega
        exact .inr ⟨j, p, hj, by simp⟩
theorem ents_asc (l : List Place) : ∀ K, AscE (ents l K)
  | 0 => List.Pairwise.nil
  | K + 1 => by
    unfold AscE ents
    rw [List.pairwise_append]
    refine ⟨ents_asc l K, srt_asc (k := K) (part_places _ _ _) (fun e he => by obtain ⟨j, p, _, rfl⟩ := part_mem.1 he; rfl), fun a ha b hb => ?_⟩
    obtain ⟨k, j, p, hk, _, rfl⟩ := ents_mem.1 ha
    rw [srt_mem] at hb
    obtain ⟨j2, p2, _, rfl⟩ := part_mem.1 hb
    unfold ltE; simp only; omega
theorem ents_len (l : List Place) : ∀ K, (ents l K).length = K * l.length
  | 0 => by simp [ents]
  | K + 1 => by rw [ents, List.length_append, ents_len l K, srt_len, part_len, Nat.succ_mul]
/-- one entry more, in its place -/
def insE (e : PlaceEntry) (L : List PlaceEntry) : List PlaceEntry := L.takeWhile (fun a => decide (ltE a e)) ++ e :: L.dropWhile (fun a => decide (ltE a e))
theorem insE_mem {e x : PlaceEntry} {L : List PlaceEntry} : x ∈ insE e L ↔ x = e ∨ x ∈ L := by
  have := List.takeWhile_append_dropWhile (p := fun a => decide (ltE a e)) (l := L)
  unfold insE
  constructor
  · intro h
    rcases List.mem_append.1 h with h | h
    · right; rw [← this]; exact List.mem_append.2 (.inl h)
    · rcases List.mem_cons.1 h with h | h
      · exact .inl h
      · right; rw [← this]; exact List.mem_append.2 (.inr h)
  · rintro (rfl | h)
    · simp
    · rw [← this] at h
      rcases List.mem_append.1 h with h | h
      · exact List.mem_append.2 (.inl h)
      · exact List.mem_append.2 (.inr (by simp [h]))
theorem insE_nil (e : PlaceEntry) : insE e [] = [e] := rfl
theorem insE_cons (e a : PlaceEntry) (L : List PlaceEntry) : insE e (a :: L) = if ltE a e then a :: insE e L else e :: a :: L := by
  unfold insE
  rw [List.takeWhile_cons, List.dropWhile_cons]
  by_cases h : ltE a e <;> simp [h]
theorem insE_asc {e : PlaceEntry} : ∀ {L : List PlaceEntry}, AscE L → e ∉ L → AscE (insE e L)
  | [], _, _ => by rw [insE_nil]; exact List.pairwise_singleton _ _
  | a :: L, h, hn => by
    obtain ⟨h1, h2⟩ := List.pairwise_cons.1 h
    rw [insE_cons]
    simp only [List.mem_cons, not_or] at hn
    split
    · rename_i hlt
      refine List.pairwise_cons.2 ⟨fun b hb => ?_, insE_asc h2 hn.2⟩
      rcases insE_mem.1 hb with rfl | hb
      · exact hlt
      · exact h1 b hb
    · rename_i hlt
      have hea := ltE_total hlt (fun h => hn.1 h.symm)
      refine List.pairwise_cons.2 ⟨fun b hb => ?_, h⟩
      rcases List.mem_cons.1 hb with rfl | hb
      · exact hea
      · exact ltE_trans hea (h1 b hb)
theorem insE_at {e : PlaceEntry} {L : List PlaceEntry} {a : Nat} (h1 : ∀ i x, i < a → L[i]? = some x → ltE x e) (h2 : a = L.length ∨ ∃ x, L[a]? = some x ∧ ¬ ltE x e) : insE e L = L.take a ++ e :: L.drop a := by
  induction L generalizing a with
  | nil =>
    rw [insE_nil]; simp
  | cons x L ih =>
    rw [insE_cons]
    rcases a with _ | a
    · rcases h2 with h2 | ⟨y, hy, h2⟩
      · simp at h2
      · simp at hy; subst hy; simp [h2]
    · rw [if_pos (h1 0 x (by omega) rfl), ih (a := a) (fun i y hi hy => h1 (i + 1) y (by omega) (by simpa using hy)) ?_]
      · simp
      · rcases h2 with h2 | ⟨y, hy, h2⟩
        · left; simpa using h2
        · right; exact ⟨y, by simpa using hy, h2⟩
/-- the entries of place j, one by one -/
def ins3 (b : Int) (j : Nat) (L : List PlaceEntry) : Nat → List PlaceEntry
  | 0 => L
  | k + 1 => insE ⟨(k : Nat), chunkV b (k : Nat), (j : Nat)⟩ (ins3 b j L k)
def spT (l : List Place) : Nat → List PlaceEntry
  | 0 => []
  | j + 1 => match l[j]? with
    | some p => ins3 p.bits j (spT l j) 3
    | none => spT l j
theorem spT_succ {l : List Place} {j : Nat} {p : Place} (h : l[j]? = some p) : spT l (j + 1) = ins3 p.bits j (spT l j) 3 := by simp [spT, h]
theorem ins3_mem {b : Int} {j : Nat} {L : List PlaceEntry} {x : PlaceEntry} : ∀ {K : Nat}, x ∈ ins3 b j L K ↔ x ∈ L ∨ ∃ k, k < K ∧ x = ⟨(k : Nat), chunkV b (k : Nat), (j : Nat)⟩
  | 0 => by simp [ins3]
  | K + 1 => by
    rw [ins3, insE_mem, ins3_mem]
    constructor
    · rintro (rfl | h | ⟨k, hk, rfl⟩)
      · exact .inr ⟨K, by omega, rfl⟩
      · exact .inl h
      · exact .inr ⟨k, by omega, rfl⟩
    · rintro (h | ⟨k, hk, rfl⟩)
      · exact .inr (.inl h)
      · by_cases h : k < K
        · exact .inr (.inr ⟨k, h, rfl⟩)
        · obtain rfl : k = K := by omega
          exact .inl rfl
theorem ins3_asc {b : Int} {j : Nat} {L : List PlaceEntry} (h : AscE L) (hp : ∀ x ∈ L, x.place < (j : Int)) : ∀ K, AscE (ins3 b j L K)
  | 0 => h
  | K + 1 => by
    refine insE_asc (ins3_asc h hp K) fun hm => ?_
    rcases ins3_mem.1 hm with hm | ⟨k, hk, e⟩
    · have := hp _ hm; simp at this
    · simp only [PlaceEntry.mk.injEq] at e; omega
theorem ins3_len {b : Int} {j : Nat} {L : List PlaceEntry} : ∀ K, (ins3 b j L K).length = L.length + K
  | 0 => rfl
  | K + 1 => by
    have h2 : ∀ (e : PlaceEntry) (M : List PlaceEntry), (insE e M).length = M.length + 1 := fun e M => by
      have := congrArg List.length (List.takeWhile_append_dropWhile (p := fun a => decide (ltE a e)) (l := M))
      unfold insE; simp only [List.length_append, List.length_cons] at *; omega
    rw [ins3, h2, ins3_len K]; omega
theorem spT_mem {l : List Place} {x : PlaceEntry} : ∀ {J : Nat}, x ∈ spT l J ↔ ∃ k j p, k < 3 ∧ j < J ∧ l[j]? = some p ∧ x = ⟨(k : Nat), chunkV p.bits (k : Nat), (j : Nat)⟩
  | 0 => by simp [spT]
  | J + 1 => by
    rcases h : l[J]? with _ | p
    · have e : spT l (J + 1) = spT l J := by simp [spT, h]
      rw [e, spT_mem]
      constructor
      · rintro ⟨k, j, q, hk, hj, hq, rfl⟩; exact ⟨k, j, q, hk, by omega, hq, rfl⟩
      · rintro ⟨k, j, q, hk, hj, hq, rfl⟩
        refine ⟨k, j, q, hk, ?_, hq, rfl⟩
        rcases Nat.lt_or_ge j J with h2 | h2
        · exact h2
        · obtain rfl : j = J := by omega
          rw [h] at hq; exact absurd hq (by simp)
    · rw [spT_succ h, ins3_mem, spT_mem]
      constructor
      · rintro (⟨k, j, q, hk, hj, hq, rfl⟩ | ⟨k, hk, rfl⟩)
        · exact ⟨k, j, q, hk, by omega, hq, rfl⟩
        · exact ⟨k, J, p, hk, by omega, h, rfl⟩
      · rintro ⟨k, j, q, hk, hj, hq, rfl⟩
        rcases Nat.lt_or_ge j J with h2 | h2
        · exact .inl ⟨k, j, q, hk, h2, hq, rfl⟩
        · obtain rfl : j = J := by omega
          rw [h] at hq; obtain rfl := Option.some.inj hq
          exact .inr ⟨k, hk, rfl⟩
theorem spT_place {l : List Place} {J : Nat} : ∀ x ∈ spT l J, x.place < (J : Int) := fun x hx => by
  obtain ⟨k, j, p, hk, hj, hp, rfl⟩ := spT_mem.1 hx; simp only; omega
theorem spT_asc (l : List Place) : ∀ J, AscE (spT l J)
  | 0 => List.Pairwise.nil
  | J + 1 => by
    rcases h : l[J]? with _ | p
    · have e : spT l (J + 1) = spT l J := by simp [spT, h]
      rw [e]; exact spT_asc l J
    · rw [spT_succ h]; exact ins3_asc (spT_asc l J) spT_place 3
theorem spT_ents {l : List Place} {n : Nat} (hn : Hid (l.length = n)) : spT l n = ents l 3 := by
  refine eq_of_asc (spT_asc l n) (ents_asc l 3) fun x => ?_
  rw [spT_mem, ents_mem]
  constructor
  · rintro ⟨k, j, p, hk, hj, hp, rfl⟩; exact ⟨k, j, p, hk, hp, rfl⟩
  · rintro ⟨k, j, p, hk, hp, rfl⟩
    have h := (List.getElem?_eq_some_iff.1 hp).1
    have := hn.out
    exact ⟨k, j, p, hk, by omega, hp, rfl⟩
theorem spT_len {l : List Place} : ∀ {J : Nat}, J ≤ l.length → (spT l J).length = 3 * J
  | 0, _ => rfl
  | J + 1, h => by
    rw [spT_succ (List.getElem?_eq_getElem (show J < l.length by omega)), ins3_len, spT_len (by omega)]; omega
def buildIdx (l : List Place) : PIdx × Bool := if isPL l then (⟨l, ents l 3⟩, true) else (⟨[], []⟩, false)
theorem buildIdx_no {l : List Place} (h : isPL l = false) : buildIdx l = (⟨[], []⟩, false) := by simp [buildIdx, h]
theorem buildIdx_yes {l : List Place} (h : isPL l = true) : buildIdx l = (⟨l, ents l 3⟩, true) := by simp [buildIdx, h]
theorem isPL_len {l : List Place} (h : isPL l = true) : l.length ≤ 16 := by
  unfold isPL at h; simp only [Bool.and_eq_true, decide_eq_true_eq] at h; exact h.1
theorem fewX_build (l : List Place) : fewX (buildIdx l).1 := by
  cases h : isPL l
  · rw [buildIdx_no h]; unfold fewX fewP fewL; simp
  · rw [buildIdx_yes h]
    have h1 := isPL_len h
    have h2 := ents_len l 3
    unfold fewX fewP fewL; simp only
    omega
theorem nilX (w : World) : OwX w ⟨⟨none, 0, 0⟩, ⟨none, 0, 0⟩⟩ ⟨[], []⟩ := ⟨Own.nil_ _ _ _ _, Own.nil_ _ _ _ _⟩
end Go.Proofs.Ytbfajhfmfdiacaa
