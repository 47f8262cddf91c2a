/- Texts of this proof, one behind the other: PrsE, PrsJ. -/
import Derived.Lib.IndexMore
import Derived.Lib.IndexLaws
import Derived.Test.YtebcdjpddoaajaaDoorGr29
import Derived.Test.YtebcdjpddoaajaaDoorGr32
/- The entry whose line is given; a journal read line by line. Plain. -/
namespace Go.Proofs.YtebcdjpddoaajaaDoor
open Go.RowKit
set_option linter.unusedVariables false
set_option linter.unusedSimpArgs false
set_option maxRecDepth 100000
/-- ln, with a newline behind it, is the line of e -/
def EntOf (ln : List UInt8) (p : Int) (e : Entry) : Prop := vldEntry e = true ∧ inR p 0 65520 = true ∧ (entT e p).data.toList = ln ++ [10]
theorem ent_ln {ln : List UInt8} {p : Int} {e : Entry} (h : EntOf ln p e) : ln = entL e ++ 32 :: 35 :: Lib.itoa (entSum e p) := by
  have := h.2.2
  unfold entT at this
  simp only at this
  have e2 : entL e ++ 32 :: 35 :: (Lib.itoa (entSum e p) ++ [10]) = (entL e ++ 32 :: 35 :: Lib.itoa (entSum e p)) ++ [10] := by simp
  rw [e2] at this
  exact (List.append_cancel_right this).symm
def addL : List UInt8 := [97, 100, 100, 32]
def remL : List UInt8 := [114, 101, 109, 111, 118, 101, 32]
def zFac : Factor := ⟨0, 0, ⟨#[]⟩, ⟨#[]⟩, ⟨0, 0, 0⟩, 0⟩
theorem isZero_eq {f : Factor} (h : f.isZero = true) : f = zFac := by
  unfold Factor.isZero at h
  simp only [Bool.and_eq_true, beq_iff_eq] at h
  obtain ⟨h1, h2, h3, h4, h5, h6, h7, h8⟩ := h
  have e1 : f.frm = ⟨#[]⟩ := by rw [ByteArray.toList_eq] at h3; exact bext (by simpa using h3)
  have e2 : f.to = ⟨#[]⟩ := by rw [ByteArray.toList_eq] at h4; exact bext (by simpa using h4)
  obtain ⟨fi, fk, ff, ft, ⟨pt, px, py⟩, fw⟩ := f
  simp only at h1 h2 e1 e2 h5 h6 h7 h8
  rw [h1, h2, e1, e2, h5, h6, h7, h8]; rfl
/-- the two kinds of entries -/
theorem ent_kinds {e : Entry} (h : vldEntry e = true) : (∃ f, e = ⟨false, 0, f⟩ ∧ vldFactor f = true ∧ entL e = addL ++ facL f) ∨ (∃ n, e = ⟨true, n, zFac⟩ ∧ (0 ≤ n ∧ n ≤ 99999) ∧ entL e = remL ++ Lib.itoa n) := by
  obtain ⟨r, n, f⟩ := e
  unfold vldEntry at h
  cases r with
  | true =>
    simp only [if_true, Bool.and_eq_true, inR_iff] at h
    exact .inr ⟨n, by rw [isZero_eq h.2], h.1, rfl⟩
  | false =>
    simp only [Bool.false_eq_true, if_false, Bool.and_eq_true, beq_iff_eq] at h
    exact .inl ⟨f, by rw [h.1], h.2, rfl⟩
theorem ent_no {e : Entry} (h : vldEntry e = true) {c : UInt8} (hc : c = 10 ∨ c = 35) : ∀ b ∈ entL e, isB c b = false := by
  rcases ent_kinds h with ⟨f, _, hv, he⟩ | ⟨n, _, _, he⟩
  · rw [he]
    intro b hb
    rcases List.mem_append.1 hb with hb | hb
    · have h1 : ∀ b ∈ addL, isB 10 b = false ∧ isB 35 b = false := by decide
      rcases hc with rfl | rfl
      · exact (h1 b hb).1
      · exact (h1 b hb).2
    · exact fac_no hv (.inr hc) b hb
  · rw [he]
    intro b hb
    rcases List.mem_append.1 hb with hb | hb
    · have h1 : ∀ b ∈ remL, isB 10 b = false ∧ isB 35 b = false := by decide
      rcases hc with rfl | rfl
      · exact (h1 b hb).1
      · exact (h1 b hb).2
    · exact wd_no (.inr (.inr (.inr hc))) (itoa_wd _ _ hb)
theorem ent_no10 {ln : List UInt8} {p : Int} {e : Entry} (h : EntOf ln p e) : ∀ b ∈ ln, isB 10 b = false := by
  rw [ent_ln h]
  intro b hb
  simp only [List.mem_append, List.mem_cons] at hb
  rcases hb with hb | rfl | rfl | hb
  · exact ent_no h.1 (by simp) b hb
  · decide
  · decide
  · exact wd_no (by simp) (itoa_wd _ _ hb)
theorem index_hash : ∀ (A X : List UInt8), (∀ b ∈ A, isB 35 b = false) → Lib.index (A ++ 32 :: 35 :: X) [32, 35] = A.length
  | [], X, _ => by simp [Lib.index]
  | a :: A, X, h => by
    have ih := index_hash A X fun b hb => h b (by simp [hb])
    have hp : List.isPrefixOf [32, 35] (a :: (A ++ 32 :: 35 :: X)) = false := by
      cases A with
      | nil => simp [List.isPrefixOf]
      | cons b A =>
        have hb := h b (by simp)
        have hb : ¬ (35 : UInt8) = b := by intro e; rw [← e] at hb; revert hb; decide
        simp [List.isPrefixOf, hb]
    rw [List.cons_append, Lib.index, hp, ih]
    have : ¬ ((A.length : Int) == -1) = true := by simp
    simp only [Bool.false_eq_true, if_false, if_neg this, List.length_cons]
    omega
theorem ent_cut {ln : List UInt8} {p : Int} {e : Entry} (h : EntOf ln p e) : Lib.cut ln [32, 35] = (entL e, Lib.itoa (entSum e p), true) := by
  have hi := index_hash (entL e) (Lib.itoa (entSum e p)) (ent_no h.1 (by simp))
  rw [ent_ln h]
  unfold Lib.cut
  rw [hi, if_pos (by omega)]
  simp
theorem entL_inj {e g : Entry} (h : vldEntry e = true) (k : vldEntry g = true) (he : entL e = entL g) : e = g := by
  rcases ent_kinds h with ⟨f, rfl, hv, h1⟩ | ⟨n, rfl, hn, h1⟩ <;> rcases ent_kinds k with ⟨f', rfl, hv', h2⟩ | ⟨n', rfl, hn', h2⟩
  · rw [h1, h2] at he
    have he := List.append_cancel_left he
    rw [fac_one (s := ⟨(facL f).toArray⟩) ⟨hv, by simp⟩ ⟨hv', by rw [← he]⟩]
  · rw [h1, h2] at he
    exact absurd (List.cons.inj he).1 (by decide)
  · rw [h1, h2] at he
    exact absurd (List.cons.inj he).1 (by decide)
  · rw [h1, h2] at he
    rw [itoa_inj (by omega) (by omega) (by omega) (by omega) (List.append_cancel_left he)]
theorem ent_one {ln : List UInt8} {p q : Int} {e g : Entry} (h : EntOf ln p e) (k : EntOf ln q g) : e = g := by
  have a := ent_cut h
  rw [ent_cut k] at a
  exact (entL_inj k.1 h.1 (Prod.mk.inj a).1).symm
/-! ### the words of a line -/
theorem splitL_end {p : UInt8 → Bool} {c : UInt8} (hc : p c = true) (z : List UInt8) (hz : ∀ b ∈ z, p b = false) : ∀ (l cur : List UInt8), splitL p cur (l ++ c :: z) = splitL p cur l ++ [z]
  | [], cur => by
    rw [List.nil_append, show splitL p cur (c :: z) = cur :: splitL p [] z by rw [splitL, if_pos hc], splitL_last _ _ hz]; rfl
  | b :: l, cur => by
    rw [List.cons_append, splitL, splitL]
    split
    · rw [splitL_end hc z hz l []]; rfl
    · exact splitL_end hc z hz l _
theorem hash_no (n : Int) : ∀ b ∈ 35 :: Lib.itoa n, isB 32 b = false := by
  intro b hb
  rcases List.mem_cons.1 hb with rfl | hb
  · decide
  · exact wd_no (by simp) (itoa_wd _ _ hb)
theorem ent_words {ln : List UInt8} {p : Int} {e : Entry} {L : List ByteArray} (h : EntOf ln p e) (hL : L.map (fun x => x.data.toList) = splitL (isB 32) [] ln) :
    (∃ f w0 T z, e = ⟨false, 0, f⟩ ∧ vldFactor f = true ∧ L = w0 :: (T ++ [z]) ∧ w0.data.toList = [97, 100, 100] ∧ joinL 32 (T.map fun x => x.data.toList) = facL f) ∨
    (∃ n w0 w1 z, e = ⟨true, n, zFac⟩ ∧ L = [w0, w1, z] ∧ w0.data.toList = [114, 101, 109, 111, 118, 101] ∧ psI w1 = some n) := by
  rw [ent_ln h] at hL
  rcases ent_kinds h.1 with ⟨f, hf, hv, h1⟩ | ⟨n, hf, hn, h1⟩
  · refine .inl ⟨f, ?_⟩
    rw [h1, splitL_end (isB_self 32) _ (hash_no _), show addL ++ facL f = [97, 100, 100] ++ 32 :: facL f from rfl, splitL_word (isB_self 32) _ _ _ (by decide)] at hL
    have hlen := congrArg List.length hL
    simp only [List.length_map, List.length_append, List.length_cons, List.length_nil] at hlen
    have hsp := List.length_pos_iff.2 (splitL_ne (isB 32) (facL f) [])
    rcases L with _ | ⟨w0, L⟩
    · simp at hlen
    · have hLn : L ≠ [] := by intro hn; rw [hn] at hlen; simp at hlen
      simp only [List.map_cons, List.cons_append, List.cons.injEq] at hL
      have hd := List.dropLast_concat_getLast hLn
      have hm := hL.2
      rw [← hd, List.map_append] at hm
      have hm := List.append_inj' hm (by simp)
      refine ⟨w0, L.dropLast, L.getLast hLn, hf, hv, by rw [hd], hL.1, ?_⟩
      rw [hm.1, joinL_split, List.nil_append]
  · refine .inr ⟨n, ?_⟩
    have e2 : (remL ++ Lib.itoa n) ++ 32 :: 35 :: Lib.itoa (entSum e p) = [114, 101, 109, 111, 118, 101] ++ 32 :: (Lib.itoa n ++ 32 :: (35 :: Lib.itoa (entSum e p))) := by simp [remL]
    rw [h1, e2, splitL_word (isB_self 32) _ _ _ (by decide), splitL_word (isB_self 32) _ _ _ (no_of (by simp) (itoa_wd n)), splitL_last _ _ (hash_no _)] at hL
    rcases L with _ | ⟨a, _ | ⟨b, _ | ⟨c, _ | ⟨d, L⟩⟩⟩⟩
    all_goals simp only [List.map_cons, List.map_nil, List.nil_append, List.cons.injEq, reduceCtorEq, and_false, and_true, List.nil_eq, List.cons_ne_nil] at hL
    exact ⟨a, b, c, hf, rfl, hL.1, psI_some (by omega) (by omega) (bext (by rw [hL.2.1]; simp [itoaB]))⟩
/-! ### the journal -/
/-- r begins with the line of e -/
def PfxOf (r : List UInt8) (p : Int) (e : Entry) : Prop := vldEntry e = true ∧ inR p 0 65520 = true ∧ ∃ t, r = (entT e p).data.toList ++ t
theorem pfx_ln {r : List UInt8} {p : Int} {e : Entry} (h : PfxOf r p e) : ∃ ln t, r = ln ++ 10 :: t ∧ EntOf ln p e := by
  obtain ⟨h1, h2, t, rfl⟩ := h
  refine ⟨entL e ++ 32 :: 35 :: Lib.itoa (entSum e p), t, ?_, h1, h2, ?_⟩
  · unfold entT; simp
  · unfold entT; simp
theorem ln_pfx {ln t : List UInt8} {p : Int} {e : Entry} (h : EntOf ln p e) : PfxOf (ln ++ 10 :: t) p e :=
  ⟨h.1, h.2.1, t, by rw [h.2.2]; simp⟩
theorem nl_one : ∀ {a b t u : List UInt8}, (∀ x ∈ a, isB 10 x = false) → (∀ x ∈ b, isB 10 x = false) → a ++ 10 :: t = b ++ 10 :: u → a = b ∧ t = u
  | [], [], t, u, _, _, h => ⟨rfl, (List.cons.inj h).2⟩
  | [], y :: b, t, u, _, hb, h => by
    have := hb y (by simp)
    rw [← (List.cons.inj h).1] at this; exact absurd this (by decide)
  | x :: a, [], t, u, ha, _, h => by
    have := ha x (by simp)
    rw [(List.cons.inj h).1] at this; exact absurd this (by decide)
  | x :: a, y :: b, t, u, ha, hb, h => by
    have h1 := List.cons.inj h
    obtain ⟨h2, h3⟩ := nl_one (fun z hz => ha z (by simp [hz])) (fun z hz => hb z (by simp [hz])) h1.2
    exact ⟨by rw [h1.1, h2], h3⟩
theorem pfx_at {ln t : List UInt8} {p : Int} {e : Entry} (hl : ∀ x ∈ ln, isB 10 x = false) (h : PfxOf (ln ++ 10 :: t) p e) : EntOf ln p e := by
  obtain ⟨ln', t', he, h⟩ := pfx_ln h
  obtain ⟨h1, h2⟩ := nl_one hl (ent_no10 h) he
  rw [h1]; exact h
theorem pfx_nl {r : List UInt8} {p : Int} {e : Entry} (h : PfxOf r p e) : 10 ∈ r := by
  obtain ⟨ln, t, rfl, _⟩ := pfx_ln h
  simp
theorem pfx_one {r : List UInt8} {p q : Int} {e g : Entry} (h : PfxOf r p e) (k : PfxOf r q g) : e = g := by
  obtain ⟨ln, t, rfl, h2⟩ := pfx_ln h
  exact ent_one h2 (pfx_at (ent_no10 h2) k)
noncomputable def nxt (r : List UInt8) (p : Int) : Option Entry := the (PfxOf r p)
theorem nxt_some {r : List UInt8} {p : Int} {e : Entry} (h : PfxOf r p e) : nxt r p = some e := the_some (fun q hq => pfx_one hq h) h
theorem nxt_none {r : List UInt8} {p : Int} (h : ∀ e, ¬ PfxOf r p e) : nxt r p = none := the_none h
theorem nxt_text {r : List UInt8} {p : Int} {e : Entry} (h : nxt r p = some e) : PfxOf r p e := the_text h
/-- the entries of the lines, at most k; the bytes they take; the last sum -/
noncomputable def rdj : Nat → List UInt8 → Int → List Entry × Nat × Int
  | 0, _, p => ([], 0, p)
  | k + 1, r, p => match nxt r p with
    | none => ([], 0, p)
    | some e => (e :: (rdj k (r.drop (entT e p).size) (entSum e p)).1, (entT e p).size + (rdj k (r.drop (entT e p).size) (entSum e p)).2.1, (rdj k (r.drop (entT e p).size) (entSum e p)).2.2)
theorem rdj_none {k : Nat} {r : List UInt8} {p : Int} (h : ∀ e, ¬ PfxOf r p e) : rdj k r p = ([], 0, p) := by
  cases k with
  | zero => rfl
  | succ k => rw [rdj, nxt_none h]
theorem rdj_some {k : Nat} {r : List UInt8} {p : Int} {e : Entry} (h : PfxOf r p e) : rdj (k + 1) r p = (e :: (rdj k (r.drop (entT e p).size) (entSum e p)).1, (entT e p).size + (rdj k (r.drop (entT e p).size) (entSum e p)).2.1, (rdj k (r.drop (entT e p).size) (entSum e p)).2.2) := by
  rw [rdj, nxt_some h]
theorem ent_size {ln : List UInt8} {p : Int} {e : Entry} (h : EntOf ln p e) : (entT e p).size = ln.length + 1 := by
  have h1 : (entT e p).data.toList.length = (entT e p).size := by simp
  rw [h.2.2] at h1
  simp at h1; omega
/-- what reading has reached: l so far, n bytes, the sum q -/
def RjInv (s : List UInt8) (l : List Entry) (n : Nat) (q : Int) : Prop :=
  l.length ≤ 60 ∧ n ≤ s.length ∧ rdj 60 s 1 = (l ++ (rdj (60 - l.length) (s.drop n) q).1, n + (rdj (60 - l.length) (s.drop n) q).2.1, (rdj (60 - l.length) (s.drop n) q).2.2)
theorem RjInv.start (s : List UInt8) : RjInv s [] 0 1 := ⟨by simp, by simp, by simp⟩
theorem RjInv.full {s : List UInt8} {l : List Entry} {n : Nat} {q : Int} (h : RjInv s l n q) (hl : l.length = 60) : rdj 60 s 1 = (l, n, q) := by
  obtain ⟨_, _, h⟩ := h
  rw [hl] at h
  rw [h]; simp [rdj]
theorem RjInv.stop {s : List UInt8} {l : List Entry} {n : Nat} {q : Int} (h : RjInv s l n q) (hn : ∀ e, ¬ PfxOf (s.drop n) q e) : rdj 60 s 1 = (l, n, q) := by
  obtain ⟨_, _, h⟩ := h
  rw [rdj_none hn] at h
  rw [h]; simp
theorem RjInv.next {s : List UInt8} {l : List Entry} {n : Nat} {q : Int} {e : Entry} (h : RjInv s l n q) (hl : l.length < 60) (he : PfxOf (s.drop n) q e) : RjInv s (l ++ [e]) (n + (entT e q).size) (entSum e q) := by
  obtain ⟨_, h0, h⟩ := h
  have hk : 60 - l.length = (60 - (l ++ [e]).length) + 1 := by simp; omega
  rw [hk, rdj_some he, List.drop_drop] at h
  refine ⟨by simp; omega, ?_, ?_⟩
  · obtain ⟨_, _, t, ht⟩ := he
    have := congrArg List.length ht
    simp only [List.length_drop, List.length_append] at this
    have h1 : (entT e q).data.toList.length = (entT e q).size := by simp
    omega
  · rw [h]
    simp [Nat.add_assoc]
end Go.Proofs.YtebcdjpddoaajaaDoor

/- A journal of valid entries, read back: whole, cut off, and with one more line. Plain. -/
namespace Go.Proofs.YtebcdjpddoaajaaDoor
open Go.RowKit
set_option linter.unusedVariables false
set_option linter.unusedSimpArgs false
set_option maxRecDepth 100000
theorem entSum_in (e : Entry) (p : Int) : inR (entSum e p) 0 65520 = true := by
  rw [inR_iff]
  exact entSum_bound e p
/-- the lines of a list -/
def jrnL : List Entry → Int → List UInt8
  | [], _ => []
  | e :: l, p => (entT e p).data.toList ++ jrnL l (entSum e p)
def sumL : List Entry → Int → Int
  | [], p => p
  | e :: l, p => sumL l (entSum e p)
theorem jrnL_app : ∀ (l m : List Entry) (p : Int), jrnL (l ++ m) p = jrnL l p ++ jrnL m (sumL l p)
  | [], m, p => rfl
  | e :: l, m, p => by
    show _ ++ jrnL (l ++ m) _ = (_ ++ jrnL l _) ++ _
    rw [jrnL_app l m, List.append_assoc]; rfl
theorem sumL_app : ∀ (l m : List Entry) (p : Int), sumL (l ++ m) p = sumL m (sumL l p)
  | [], m, p => rfl
  | e :: l, m, p => sumL_app l m _
theorem sumL_in : ∀ (l : List Entry) (p : Int), inR p 0 65520 = true → inR (sumL l p) 0 65520 = true
  | [], p, h => h
  | e :: l, p, _ => sumL_in l _ (entSum_in e p)
theorem ent_line {e : Entry} {p : Int} (h : vldEntry e = true) (hp : inR p 0 65520 = true) : ∃ ln, EntOf ln p e :=
  ⟨entL e ++ 32 :: 35 :: Lib.itoa (entSum e p), h, hp, by unfold entT; simp⟩
theorem no_pfx {r : List UInt8} {p q : Int} (h : ∀ x ∈ r, isB 10 x = false) (e : Entry) : ¬ PfxOf r p e := by
  intro hp
  have := h 10 (pfx_nl hp)
  revert this; decide
theorem bsize (s : ByteArray) : s.data.toList.length = s.size := by simp
theorem jrn_data : ∀ (l : List Entry) (p : Int) (s : ByteArray), (∀ e ∈ l, vldEntry e = true) → inR p 0 65520 = true → (jrn l p s).data.toList = s.data.toList ++ jrnL l p
  | [], p, s, _, _ => by simp [jrn, jrnL]
  | e :: l, p, s, h, hp => by
    rw [jrn, if_pos (by rw [h e (by simp), hp]; rfl), jrn_data l _ _ (fun g hg => h g (by simp [hg])) (entSum_in e p)]
    simp [jrnL, ByteArray.data_append]
theorem jrnOf_data {l : List Entry} (h : ∀ e ∈ l, vldEntry e = true) (hl : l.length ≤ 60) : (jrnOf l).data.toList = jrnL l 1 := by
  unfold jrnOf
  rw [if_pos hl, jrn_data l 1 _ h (by decide)]
  rfl
theorem rdj_take : ∀ (l : List Entry) (p : Int) (f k : Nat), (∀ e ∈ l, vldEntry e = true) → inR p 0 65520 = true → l.length ≤ f →
    ∃ m, m ≤ l.length ∧ rdj f ((jrnL l p).take k) p = (l.take m, (jrnL (l.take m) p).length, sumL (l.take m) p) ∧ (jrnL (l.take m) p).length ≤ k ∧ ((jrnL l p).length ≤ k → m = l.length)
  | [], p, f, k, _, _, _ => by
    refine ⟨0, Nat.le_refl _, ?_, by simp [jrnL], fun _ => rfl⟩
    rw [rdj_none (no_pfx (q := 0) (by simp [jrnL]))]
    simp [jrnL, sumL]
  | e :: l, p, f, k, h, hp, hf => by
    obtain ⟨f, rfl⟩ : ∃ g, f = g + 1 := ⟨f - 1, by simp at hf; omega⟩
    obtain ⟨ln, hln⟩ := ent_line (h e (by simp)) hp
    have hsz := ent_size hln
    have hdl := bsize (entT e p)
    by_cases hk : (entT e p).size ≤ k
    · have ht : (jrnL (e :: l) p).take k = (entT e p).data.toList ++ (jrnL l (entSum e p)).take (k - (entT e p).size) := by
        show ((entT e p).data.toList ++ jrnL l (entSum e p)).take k = _
        rw [List.take_append, List.take_of_length_le (by omega), hdl]
      obtain ⟨m, hm, hr, hl, hw⟩ := rdj_take l (entSum e p) f (k - (entT e p).size) (fun g hg => h g (by simp [hg])) (entSum_in e p) (by simp at hf; omega)
      refine ⟨m + 1, by simp; omega, ?_, ?_, ?_⟩
      · rw [rdj_some (e := e) ⟨h e (by simp), hp, _, ht⟩, ht, List.drop_append, List.drop_of_length_le (by omega), hdl, Nat.sub_self, List.drop_zero, List.nil_append, hr]
        simp only [List.take_succ_cons, jrnL, sumL, List.length_append, hdl]
      · simp only [List.take_succ_cons, jrnL, List.length_append, hdl]; omega
      · intro hle
        simp only [jrnL, List.length_append, hdl] at hle
        rw [hw (by omega)]; rfl
    · refine ⟨0, Nat.zero_le _, ?_, by simp [jrnL], ?_⟩
      · have ht : (jrnL (e :: l) p).take k = ln.take k := by
          show ((entT e p).data.toList ++ jrnL l (entSum e p)).take k = _
          rw [hln.2.2, List.take_append, List.take_append]
          have e1 : k - ln.length = 0 := by omega
          have e2 : k - (ln ++ [10]).length = 0 := by simp; omega
          rw [e1, e2]; simp
        rw [ht, rdj_none (no_pfx (q := 0) fun x hx => ent_no10 hln x (List.mem_of_mem_take hx))]
        simp [jrnL, sumL]
      · intro hle
        exfalso
        simp only [jrnL, List.length_append, hdl] at hle
        omega
theorem jrnL_take : ∀ (l : List Entry) (p : Int) (m : Nat), (jrnL l p).take (jrnL (l.take m) p).length = jrnL (l.take m) p
  | l, p, m => by
    have h : l = l.take m ++ l.drop m := (List.take_append_drop m l).symm
    have e := jrnL_app (l.take m) (l.drop m) p
    rw [← h] at e
    rw [e, List.take_append, List.take_of_length_le (Nat.le_refl _), Nat.sub_self, List.take_zero, List.append_nil]
/-- the whole journal is read -/
theorem rdj_all {l : List Entry} (h : ∀ e ∈ l, vldEntry e = true) (hl : l.length ≤ 60) : rdj 60 (jrnL l 1) 1 = (l, (jrnL l 1).length, sumL l 1) := by
  obtain ⟨m, hm, hr, _, hw⟩ := rdj_take l 1 60 (jrnL l 1).length h (by decide) hl
  rw [List.take_of_length_le (Nat.le_refl _)] at hr
  rw [hw (Nat.le_refl _), List.take_of_length_le (Nat.le_refl _)] at hr
  exact hr
theorem jrnL_ne {l : List Entry} {p : Int} (h : l ≠ []) (hv : ∀ e ∈ l, vldEntry e = true) (hp : inR p 0 65520 = true) : 0 < (jrnL l p).length := by
  cases l with
  | nil => exact absurd rfl h
  | cons e l =>
    obtain ⟨ln, hln⟩ := ent_line (hv e (by simp)) hp
    have := ent_size hln
    have := bsize (entT e p)
    simp only [jrnL, List.length_append]
    omega
end Go.Proofs.YtebcdjpddoaajaaDoor
