/- Texts of this proof, one behind the other: ShelfC, PsBun, PsBunS, PrsE. -/
import Derived.Shelf.Small.Wraps
import Derived.Shelf.Small.Strs
import Derived.Shelf.Strings.Cut
import Derived.Test.YtdfemnffpaopfaaGreatDoorProg
import Derived.Lib.IndexMore
import Derived.Lib.IndexLaws
import Derived.Test.YtdfemnffpaopfaaGreatDoorGrr17
import Derived.Test.YtdfemnffpaopfaaGreatDoorGrr26
import Derived.Test.YtdfemnffpaopfaaGreatDoorGrr27
import Derived.Test.YtdfemnffpaopfaaGreatDoorGrr29
/- strings.CutPrefix, strings.IndexByte, strings.Cut: the shelf's contracts, laid by the kit's tools. -/
namespace Go.Proofs
open Go.Shelf
def YtdfemnffpaopfaaGreatDoor.lays103_ren : Go.Shelf.Ren := ⟨fun | 103 => 140 | 210 => 180 | 206 => 202 | n => n, fun | 9 => 9 | 4 => 4 | 24 => 76 | 3 => 3 | n => n, fun | n => n⟩
theorem YtdfemnffpaopfaaGreatDoor.lays103 : Go.Proofs.Lays.n103 Tryz.prog YtdfemnffpaopfaaGreatDoor.lays103_ren := {
  mixed := by kernel_rfl
  f103 := Tryz.func140.trans (congrArg some (by kernel_rfl))
  f206 := Tryz.func202.trans (congrArg some (by kernel_rfl))
  f210 := Tryz.func180.trans (congrArg some (by kernel_rfl))
  t3 := Tryz.underlying3
  a3 := Tryz.isAgg3
  z3 := Tryz.sizeOf3
  v3 := Tryz.zeroValue3
  t4 := Tryz.underlying4
  a4 := Tryz.isAgg4
  z4 := Tryz.sizeOf4
  v4 := Tryz.zeroValue4
  t9 := Tryz.underlying9
  a9 := Tryz.isAgg9
  z9 := Tryz.sizeOf9
  v9 := Tryz.zeroValue9
  t24 := Tryz.underlying76
  a24 := Tryz.isAgg76
  z24 := Tryz.sizeOf76
  v24 := Tryz.zeroValue76 }
open Go.RowKit in
theorem YtdfemnffpaopfaaGreatDoor.strings_CutPrefix (s p : ByteArray) (w : World) :
    Calls Tryz.prog 140 #[.string s, .string p] w fun e w' => e = .returned (.tuple #[.string ⟨(Lib.trimPrefix s.data.toList p.data.toList).toArray⟩, .bool (Lib.hasPrefix s.data.toList p.data.toList)]) ∧ w' = w := Any.strings_CutPrefix YtdfemnffpaopfaaGreatDoor.lays103 s p w
def YtdfemnffpaopfaaGreatDoor.lays137_ren : Go.Shelf.Ren := ⟨fun | 137 => 132 | 217 => 174 | 266 => 200 | n => n, fun | 9 => 9 | 5 => 5 | 3 => 3 | n => n, fun | n => n⟩
theorem YtdfemnffpaopfaaGreatDoor.lays137 : Go.Proofs.Lays.n137 Tryz.prog YtdfemnffpaopfaaGreatDoor.lays137_ren := {
  mixed := by kernel_rfl
  f137 := Tryz.func132.trans (congrArg some (by kernel_rfl))
  f217 := Tryz.func174.trans (congrArg some (by kernel_rfl))
  f266 := Tryz.func200.trans (congrArg some (by kernel_rfl))
  t3 := Tryz.underlying3
  a3 := Tryz.isAgg3
  z3 := Tryz.sizeOf3
  v3 := Tryz.zeroValue3
  t5 := Tryz.underlying5
  a5 := Tryz.isAgg5
  z5 := Tryz.sizeOf5
  v5 := Tryz.zeroValue5
  t9 := Tryz.underlying9
  a9 := Tryz.isAgg9
  z9 := Tryz.sizeOf9
  v9 := Tryz.zeroValue9 }
open Go.RowKit in
theorem YtdfemnffpaopfaaGreatDoor.strings_IndexByte (s : ByteArray) (c : Int) (w : World) :
    Calls Tryz.prog 132 #[.string s, .int .u8 c] w fun e w' => e = .returned (.int .i64 (Lib.indexByte s.data.toList c.toNat.toUInt8)) ∧ w' = w := Any.strings_IndexByte YtdfemnffpaopfaaGreatDoor.lays137 s c w
def YtdfemnffpaopfaaGreatDoor.lays145_ren : Go.Shelf.Ren := ⟨fun | 145 => 175 | 220 => 201 | 219 => 214 | 217 => 174 | 225 => 225 | 224 => 226 | 267 => 227 | 266 => 200 | 314 => 233 | n => n, fun | 9 => 9 | 4 => 4 | 59 => 191 | 3 => 3 | 5 => 5 | 46 => 131 | 146 => 240 | 51 => 230 | n => n, fun | 1 => 0 | n => n⟩
theorem YtdfemnffpaopfaaGreatDoor.lays145 : Go.Proofs.Lays.n145 Tryz.prog YtdfemnffpaopfaaGreatDoor.lays145_ren := {
  mixed := by kernel_rfl
  f145 := Tryz.func175.trans (congrArg some (by kernel_rfl))
  f217 := Tryz.func174.trans (congrArg some (by kernel_rfl))
  f219 := Tryz.func214.trans (congrArg some (by kernel_rfl))
  f220 := Tryz.func201.trans (congrArg some (by kernel_rfl))
  f224 := Tryz.func226.trans (congrArg some (by kernel_rfl))
  f225 := Tryz.func225.trans (congrArg some (by kernel_rfl))
  f266 := Tryz.func200.trans (congrArg some (by kernel_rfl))
  f267 := Tryz.func227.trans (congrArg some (by kernel_rfl))
  f314 := Tryz.func233.trans (congrArg some (by kernel_rfl))
  t3 := Tryz.underlying3
  a3 := Tryz.isAgg3
  z3 := Tryz.sizeOf3
  v3 := Tryz.zeroValue3
  t4 := Tryz.underlying4
  a4 := Tryz.isAgg4
  z4 := Tryz.sizeOf4
  v4 := Tryz.zeroValue4
  t5 := Tryz.underlying5
  a5 := Tryz.isAgg5
  z5 := Tryz.sizeOf5
  v5 := Tryz.zeroValue5
  t9 := Tryz.underlying9
  a9 := Tryz.isAgg9
  z9 := Tryz.sizeOf9
  v9 := Tryz.zeroValue9
  t46 := Tryz.underlying131
  a46 := Tryz.isAgg131
  z46 := Tryz.sizeOf131
  v46 := Tryz.zeroValue131
  t51 := Tryz.underlying230
  a51 := Tryz.isAgg230
  z51 := Tryz.sizeOf230
  v51 := Tryz.zeroValue230
  t59 := Tryz.underlying191
  a59 := Tryz.isAgg191
  z59 := Tryz.sizeOf191
  v59 := Tryz.zeroValue191
  t146 := Tryz.underlying240
  a146 := Tryz.isAgg240
  z146 := Tryz.sizeOf240
  v146 := Tryz.zeroValue240
  g1 := by kernel_rfl }
open Go.RowKit in
theorem YtdfemnffpaopfaaGreatDoor.strings_Cut (s sep : ByteArray) (m : Int) (w : World) (hs : s.size < 4294967281) (hm : w.cell? ⟨0, 0, none⟩ = some (.int .i64 m)) :
    Calls Tryz.prog 175 #[.string s, .string sep] w fun e w' => e = .returned (.tuple #[.string ⟨(Lib.cut s.data.toList sep.data.toList).1.toArray⟩, .string ⟨(Lib.cut s.data.toList sep.data.toList).2.1.toArray⟩, .bool (Lib.cut s.data.toList sep.data.toList).2.2]) ∧ ∃ n, w' = w.drewN n := Any.strings_Cut YtdfemnffpaopfaaGreatDoor.lays145 s sep m w hs hm
end Go.Proofs


/- ParseBundle of the program: the bundle whose text is given. -/
namespace Go.Proofs.YtdfemnffpaopfaaGreatDoor
open Go.RowKit
set_option linter.unusedVariables false
set_option linter.unusedSimpArgs false
set_option maxHeartbeats 4000000
set_option maxRecDepth 100000

/-- what ParseBundle hands back -/
def PBPost (w : World) (s : ByteArray) (e : Ending) (w' : World) : Prop :=
  Below w.heap.size w w' ∧ ((∃ (b : Bundle) (v : Sv), psBun s = some b ∧ e = .returned (.tuple #[vBundle b.robot v.A v.n v.c, .bool true]) ∧ OwF w' v b.factors ∧ Fresh w.heap.size w' (fpF v)) ∨ (psBun s = none ∧ e = .returned (.tuple #[vBundle 0 none 0 0, .bool false])))
theorem splitL_cnt (p : UInt8 → Bool) : ∀ (l cur : List UInt8), (splitL p cur l).length ≤ l.length + 1
  | [], cur => by simp [splitL]
  | b :: l, cur => by
    rw [splitL]
    split
    · have := splitL_cnt p l []
      simp; omega
    · have := splitL_cnt p l (cur ++ [b])
      simp; omega
theorem words_cnt {s : ByteArray} {c : UInt8} {L : List ByteArray} (hL : L.map (fun x => x.data.toList) = splitL (isB c) [] s.data.toList) : L.length ≤ s.size + 1 := by
  have h := splitL_cnt (isB c) s.data.toList []
  rw [← hL] at h
  simpa using h
theorem Own.set_ {w : World} {B e sz n c : Nat} {A : Option Addr} {css : List (List Value)} (h : Own w B e sz A n c css) {p : Addr} (hp : p.block < B) (u : Value) : Own (w.setCell p u) B e sz A n c css := h.keep fun g hg => Below.heap_setCell w p u g (by have := (h.lt g hg).1; omega)
theorem vld_sz {f : Factor} (h : vldFactor f = true) : f.frm.size ≤ 4194304 ∧ f.to.size ≤ 4194304 := by
  obtain ⟨_, _, _, _, h5, h6, h7⟩ := vld_parts h
  have nm : ∀ (s : ByteArray) (c : Int), nmWith s c = true → s.size ≤ 8 := fun s c h => by
    unfold nmWith isNm at h
    simp only [Bool.and_eq_true, decide_eq_true_eq] at h
    exact h.1.1.2
  constructor
  · by_cases k : f.kind = 1
    · have e := h5 k
      rw [ByteArray.toList_eq] at e
      have : f.frm.data.toList.length = f.frm.size := by simp
      rw [show f.frm.data.toList = [] by simpa using e] at this
      simp at this; omega
    · have := nm _ _ (h6 k); omega
  · rcases h7 with h | h
    · have := nm _ _ h; omega
    · have := nm _ _ h; omega
def zFac' : Factor := ⟨0, 0, ⟨#[]⟩, ⟨#[]⟩, ⟨0, 0, 0⟩, 0⟩
theorem vFacO_eq (o : Option Factor) : vFacO o = .tuple #[vFactor (o.getD zFac').id (o.getD zFac').kind (o.getD zFac').frm (o.getD zFac').to (o.getD zFac').pose.turn (o.getD zFac').pose.x (o.getD zFac').pose.y (o.getD zFac').weight, .bool o.isSome] := by cases o <;> rfl
theorem b2 {a w : World} (h : Below a.heap.size a w) {b : Nat} (hb : a.heap.size ≤ b) (u0 u1 : Value) : Below a.heap.size a ((w.setCell ⟨b, 0, none⟩ u0).setCell ⟨b, 1, none⟩ u1) := bSet (bSet h hb u0) hb u1
end Go.Proofs.YtdfemnffpaopfaaGreatDoor


/- ParseBundle of the reference. -/
namespace Go.Proofs.YtdfemnffpaopfaaGreatDoor
open Go.RowKit
set_option linter.unusedVariables false
set_option linter.unusedSimpArgs false
set_option maxHeartbeats 4000000
set_option maxRecDepth 100000

noncomputable def gF (x : ByteArray) : Factor := (psFac x).getD zFac'
def tot (T : List ByteArray) : Nat := sumBulk (fun x => x.size + 1) T
theorem psI_rng (x : ByteArray) : -9223372036854775808 ≤ (psI x).getD 0 ∧ (psI x).getD 0 ≤ 9223372036854775807 := by
  cases h : psI x with
  | none => simp
  | some n => have := psI_text h; simp; omega
theorem vFac_gF (x : ByteArray) : ∃ o, vFacO (psFac x) = .tuple #[vFactor (gF x).id (gF x).kind (gF x).frm (gF x).to (gF x).pose.turn (gF x).pose.x (gF x).pose.y (gF x).weight, .bool o] := ⟨_, vFacO_eq _⟩
end Go.Proofs.YtdfemnffpaopfaaGreatDoor


/- The entry whose line is given; a journal read line by line. Plain. -/
namespace Go.Proofs.YtdfemnffpaopfaaGreatDoor
open Go.RowKit
set_option linter.unusedVariables false
set_option linter.unusedSimpArgs false
set_option maxRecDepth 100000
/-- ln, with a newline behind it, is the line of e -/
def EntOf (ln : List UInt8) (p : Int) (e : Entry) : Prop := vldEntry e = true ∧ inR p 0 65520 = true ∧ (entT e p).data.toList = ln ++ [10]
theorem ent_ln {ln : List UInt8} {p : Int} {e : Entry} (h : EntOf ln p e) : ln = entL e ++ 32 :: 35 :: Lib.itoa (entSum e p) := by
  have := h.2.2
  unfold entT at this
  simp only at this
  have e2 : entL e ++ 32 :: 35 :: (Lib.itoa (entSum e p) ++ [10]) = (entL e ++ 32 :: 35 :: Lib.itoa (entSum e p)) ++ [10] := by simp
  rw [e2] at this
  exact (List.append_cancel_right this).symm
def addL : List UInt8 := [97, 100, 100, 32]
def remL : List UInt8 := [114, 101, 109, 111, 118, 101, 32]
def zFac : Factor := ⟨0, 0, ⟨#[]⟩, ⟨#[]⟩, ⟨0, 0, 0⟩, 0⟩
theorem isZero_eq {f : Factor} (h : f.isZero = true) : f = zFac := by
  unfold Factor.isZero at h
  simp only [Bool.and_eq_true, beq_iff_eq] at h
  obtain ⟨h1, h2, h3, h4, h5, h6, h7, h8⟩ := h
  have e1 : f.frm = ⟨#[]⟩ := by rw [ByteArray.toList_eq] at h3; exact bext (by simpa using h3)
  have e2 : f.to = ⟨#[]⟩ := by rw [ByteArray.toList_eq] at h4; exact bext (by simpa using h4)
  obtain ⟨fi, fk, ff, ft, ⟨pt, px, py⟩, fw⟩ := f
  simp only at h1 h2 e1 e2 h5 h6 h7 h8
  rw [h1, h2, e1, e2, h5, h6, h7, h8]; rfl
/-- the two kinds of entries -/
theorem ent_kinds {e : Entry} (h : vldEntry e = true) : (∃ f, e = ⟨false, 0, f⟩ ∧ vldFactor f = true ∧ entL e = addL ++ facL f) ∨ (∃ n, e = ⟨true, n, zFac⟩ ∧ (0 ≤ n ∧ n ≤ 99999) ∧ entL e = remL ++ Lib.itoa n) := by
  obtain ⟨r, n, f⟩ := e
  unfold vldEntry at h
  cases r with
  | true =>
    simp only [if_true, Bool.and_eq_true, inR_iff] at h
    exact .inr ⟨n, by rw [isZero_eq h.2], h.1, rfl⟩
  | false =>
    simp only [Bool.false_eq_true, if_false, Bool.and_eq_true, beq_iff_eq] at h
    exact .inl ⟨f, by rw [h.1], h.2, rfl⟩
theorem ent_no {e : Entry} (h : vldEntry e = true) {c : UInt8} (hc : c = 10 ∨ c = 35) : ∀ b ∈ entL e, isB c b = false := by
  rcases ent_kinds h with ⟨f, _, hv, he⟩ | ⟨n, _, _, he⟩
  · rw [he]
    intro b hb
    rcases List.mem_append.1 hb with hb | hb
    · have h1 : ∀ b ∈ addL, isB 10 b = false ∧ isB 35 b = false := by decide
      rcases hc with rfl | rfl
      · exact (h1 b hb).1
      · exact (h1 b hb).2
    · exact fac_no hv (.inr hc) b hb
  · rw [he]
    intro b hb
    rcases List.mem_append.1 hb with hb | hb
    · have h1 : ∀ b ∈ remL, isB 10 b = false ∧ isB 35 b = false := by decide
      rcases hc with rfl | rfl
      · exact (h1 b hb).1
      · exact (h1 b hb).2
    · exact wd_no (.inr (.inr (.inr hc))) (itoa_wd _ _ hb)
theorem ent_no10 {ln : List UInt8} {p : Int} {e : Entry} (h : EntOf ln p e) : ∀ b ∈ ln, isB 10 b = false := by
  rw [ent_ln h]
  intro b hb
  simp only [List.mem_append, List.mem_cons] at hb
  rcases hb with hb | rfl | rfl | hb
  · exact ent_no h.1 (by simp) b hb
  · decide
  · decide
  · exact wd_no (by simp) (itoa_wd _ _ hb)
theorem index_hash : ∀ (A X : List UInt8), (∀ b ∈ A, isB 35 b = false) → Lib.index (A ++ 32 :: 35 :: X) [32, 35] = A.length
  | [], X, _ => by simp [Lib.index]
  | a :: A, X, h => by
    have ih := index_hash A X fun b hb => h b (by simp [hb])
    have hp : List.isPrefixOf [32, 35] (a :: (A ++ 32 :: 35 :: X)) = false := by
      cases A with
      | nil => simp [List.isPrefixOf]
      | cons b A =>
        have hb := h b (by simp)
        have hb : ¬ (35 : UInt8) = b := by intro e; rw [← e] at hb; revert hb; decide
        simp [List.isPrefixOf, hb]
    rw [List.cons_append, Lib.index, hp, ih]
    have : ¬ ((A.length : Int) == -1) = true := by simp
    simp only [Bool.false_eq_true, if_false, if_neg this, List.length_cons]
    omega
theorem ent_cut {ln : List UInt8} {p : Int} {e : Entry} (h : EntOf ln p e) : Lib.cut ln [32, 35] = (entL e, Lib.itoa (entSum e p), true) := by
  have hi := index_hash (entL e) (Lib.itoa (entSum e p)) (ent_no h.1 (by simp))
  rw [ent_ln h]
  unfold Lib.cut
  rw [hi, if_pos (by omega)]
  simp
theorem entL_inj {e g : Entry} (h : vldEntry e = true) (k : vldEntry g = true) (he : entL e = entL g) : e = g := by
  rcases ent_kinds h with ⟨f, rfl, hv, h1⟩ | ⟨n, rfl, hn, h1⟩ <;> rcases ent_kinds k with ⟨f', rfl, hv', h2⟩ | ⟨n', rfl, hn', h2⟩
  · rw [h1, h2] at he
    have he := List.append_cancel_left he
    rw [fac_one (s := ⟨(facL f).toArray⟩) ⟨hv, by simp⟩ ⟨hv', by rw [← he]⟩]
  · rw [h1, h2] at he
    exact absurd (List.cons.inj he).1 (by decide)
  · rw [h1, h2] at he
    exact absurd (List.cons.inj he).1 (by decide)
  · rw [h1, h2] at he
    rw [itoa_inj (by omega) (by omega) (by omega) (by omega) (List.append_cancel_left he)]
theorem ent_one {ln : List UInt8} {p q : Int} {e g : Entry} (h : EntOf ln p e) (k : EntOf ln q g) : e = g := by
  have a := ent_cut h
  rw [ent_cut k] at a
  exact (entL_inj k.1 h.1 (Prod.mk.inj a).1).symm
/-! ### the words of a line -/
theorem splitL_end {p : UInt8 → Bool} {c : UInt8} (hc : p c = true) (z : List UInt8) (hz : ∀ b ∈ z, p b = false) : ∀ (l cur : List UInt8), splitL p cur (l ++ c :: z) = splitL p cur l ++ [z]
  | [], cur => by
    rw [List.nil_append, show splitL p cur (c :: z) = cur :: splitL p [] z by rw [splitL, if_pos hc], splitL_last _ _ hz]; rfl
  | b :: l, cur => by
    rw [List.cons_append, splitL, splitL]
    split
    · rw [splitL_end hc z hz l []]; rfl
    · exact splitL_end hc z hz l _
theorem hash_no (n : Int) : ∀ b ∈ 35 :: Lib.itoa n, isB 32 b = false := by
  intro b hb
  rcases List.mem_cons.1 hb with rfl | hb
  · decide
  · exact wd_no (by simp) (itoa_wd _ _ hb)
theorem ent_words {ln : List UInt8} {p : Int} {e : Entry} {L : List ByteArray} (h : EntOf ln p e) (hL : L.map (fun x => x.data.toList) = splitL (isB 32) [] ln) :
    (∃ f w0 T z, e = ⟨false, 0, f⟩ ∧ vldFactor f = true ∧ L = w0 :: (T ++ [z]) ∧ w0.data.toList = [97, 100, 100] ∧ joinL 32 (T.map fun x => x.data.toList) = facL f) ∨
    (∃ n w0 w1 z, e = ⟨true, n, zFac⟩ ∧ L = [w0, w1, z] ∧ w0.data.toList = [114, 101, 109, 111, 118, 101] ∧ psI w1 = some n) := by
  rw [ent_ln h] at hL
  rcases ent_kinds h.1 with ⟨f, hf, hv, h1⟩ | ⟨n, hf, hn, h1⟩
  · refine .inl ⟨f, ?_⟩
    rw [h1, splitL_end (isB_self 32) _ (hash_no _), show addL ++ facL f = [97, 100, 100] ++ 32 :: facL f from rfl, splitL_word (isB_self 32) _ _ _ (by decide)] at hL
    have hlen := congrArg List.length hL
    simp only [List.length_map, List.length_append, List.length_cons, List.length_nil] at hlen
    have hsp := List.length_pos_iff.2 (splitL_ne (isB 32) (facL f) [])
    rcases L with _ | ⟨w0, L⟩
    · simp at hlen
    · have hLn : L ≠ [] := by intro hn; rw [hn] at hlen; simp at hlen
      simp only [List.map_cons, List.cons_append, List.cons.injEq] at hL
      have hd := List.dropLast_concat_getLast hLn
      have hm := hL.2
      rw [← hd, List.map_append] at hm
      have hm := List.append_inj' hm (by simp)
      refine ⟨w0, L.dropLast, L.getLast hLn, hf, hv, by rw [hd], hL.1, ?_⟩
      rw [hm.1, joinL_split, List.nil_append]
  · refine .inr ⟨n, ?_⟩
    have e2 : (remL ++ Lib.itoa n) ++ 32 :: 35 :: Lib.itoa (entSum e p) = [114, 101, 109, 111, 118, 101] ++ 32 :: (Lib.itoa n ++ 32 :: (35 :: Lib.itoa (entSum e p))) := by simp [remL]
    rw [h1, e2, splitL_word (isB_self 32) _ _ _ (by decide), splitL_word (isB_self 32) _ _ _ (no_of (by simp) (itoa_wd n)), splitL_last _ _ (hash_no _)] at hL
    rcases L with _ | ⟨a, _ | ⟨b, _ | ⟨c, _ | ⟨d, L⟩⟩⟩⟩
    all_goals simp only [List.map_cons, List.map_nil, List.nil_append, List.cons.injEq, reduceCtorEq, and_false, and_true, List.nil_eq, List.cons_ne_nil] at hL
    exact ⟨a, b, c, hf, rfl, hL.1, psI_some (by omega) (by omega) (bext (by rw [hL.2.1]; simp [itoaB]))⟩
/-! ### the journal -/
/-- r begins with the line of e -/
def PfxOf (r : List UInt8) (p : Int) (e : Entry) : Prop := vldEntry e = true ∧ inR p 0 65520 = true ∧ ∃ t, r = (entT e p).data.toList ++ t
theorem pfx_ln {r : List UInt8} {p : Int} {e : Entry} (h : PfxOf r p e) : ∃ ln t, r = ln ++ 10 :: t ∧ EntOf ln p e := by
  obtain ⟨h1, h2, t, rfl⟩ := h
  refine ⟨entL e ++ 32 :: 35 :: Lib.itoa (entSum e p), t, ?_, h1, h2, ?_⟩
  · unfold entT; simp
  · unfold entT; simp
theorem ln_pfx {ln t : List UInt8} {p : Int} {e : Entry} (h : EntOf ln p e) : PfxOf (ln ++ 10 :: t) p e :=
  ⟨h.1, h.2.1, t, by rw [h.2.2]; simp⟩
theorem nl_one : ∀ {a b t u : List UInt8}, (∀ x ∈ a, isB 10 x = false) → (∀ x ∈ b, isB 10 x = false) → a ++ 10 :: t = b ++ 10 :: u → a = b ∧ t = u
  | [], [], t, u, _, _, h => ⟨rfl, (List.cons.inj h).2⟩
  | [], y :: b, t, u, _, hb, h => by
    have := hb y (by simp)
    rw [← (List.cons.inj h).1] at this; exact absurd this (by decide)
  | x :: a, [], t, u, ha, _, h => by
    have := ha x (by simp)
    rw [(List.cons.inj h).1] at this; exact absurd this (by decide)
  | x :: a, y :: b, t, u, ha, hb, h => by
    have h1 := List.cons.inj h
    obtain ⟨h2, h3⟩ := nl_one (fun z hz => ha z (by simp [hz])) (fun z hz => hb z (by simp [hz])) h1.2
    exact ⟨by rw [h1.1, h2], h3⟩
theorem pfx_at {ln t : List UInt8} {p : Int} {e : Entry} (hl : ∀ x ∈ ln, isB 10 x = false) (h : PfxOf (ln ++ 10 :: t) p e) : EntOf ln p e := by
  obtain ⟨ln', t', he, h⟩ := pfx_ln h
  obtain ⟨h1, h2⟩ := nl_one hl (ent_no10 h) he
  rw [h1]; exact h
theorem pfx_nl {r : List UInt8} {p : Int} {e : Entry} (h : PfxOf r p e) : 10 ∈ r := by
  obtain ⟨ln, t, rfl, _⟩ := pfx_ln h
  simp
theorem pfx_one {r : List UInt8} {p q : Int} {e g : Entry} (h : PfxOf r p e) (k : PfxOf r q g) : e = g := by
  obtain ⟨ln, t, rfl, h2⟩ := pfx_ln h
  exact ent_one h2 (pfx_at (ent_no10 h2) k)
noncomputable def nxt (r : List UInt8) (p : Int) : Option Entry := the (PfxOf r p)
theorem nxt_some {r : List UInt8} {p : Int} {e : Entry} (h : PfxOf r p e) : nxt r p = some e := the_some (fun q hq => pfx_one hq h) h
theorem nxt_none {r : List UInt8} {p : Int} (h : ∀ e, ¬ PfxOf r p e) : nxt r p = none := the_none h
theorem nxt_text {r : List UInt8} {p : Int} {e : Entry} (h : nxt r p = some e) : PfxOf r p e := the_text h
/-- the entries of the lines, at most k; the bytes they take; the last sum -/
noncomputable def rdj : Nat → List UInt8 → Int → List Entry × Nat × Int
  | 0, _, p => ([], 0, p)
  | k + 1, r, p => match nxt r p with
    | none => ([], 0, p)
    | some e => (e :: (rdj k (r.drop (entT e p).size) (entSum e p)).1, (entT e p).size + (rdj k (r.drop (entT e p).size) (entSum e p)).2.1, (rdj k (r.drop (entT e p).size) (entSum e p)).2.2)
theorem rdj_none {k : Nat} {r : List UInt8} {p : Int} (h : ∀ e, ¬ PfxOf r p e) : rdj k r p = ([], 0, p) := by
  cases k with
  | zero => rfl
  | succ k => rw [rdj, nxt_none h]
theorem rdj_some {k : Nat} {r : List UInt8} {p : Int} {e : Entry} (h : PfxOf r p e) : rdj (k + 1) r p = (e :: (rdj k (r.drop (entT e p).size) (entSum e p)).1, (entT e p).size + (rdj k (r.drop (entT e p).size) (entSum e p)).2.1, (rdj k (r.drop (entT e p).size) (entSum e p)).2.2) := by
  rw [rdj, nxt_some h]
theorem ent_size {ln : List UInt8} {p : Int} {e : Entry} (h : EntOf ln p e) : (entT e p).size = ln.length + 1 := by
  have h1 : (entT e p).data.toList.length = (entT e p).size := by simp
  rw [h.2.2] at h1
  simp at h1; omega
/-- what reading has reached: l so far, n bytes, the sum q -/
def RjInv (s : List UInt8) (l : List Entry) (n : Nat) (q : Int) : Prop :=
  l.length ≤ 60 ∧ n ≤ s.length ∧ rdj 60 s 1 = (l ++ (rdj (60 - l.length) (s.drop n) q).1, n + (rdj (60 - l.length) (s.drop n) q).2.1, (rdj (60 - l.length) (s.drop n) q).2.2)
theorem RjInv.start (s : List UInt8) : RjInv s [] 0 1 := ⟨by simp, by simp, by simp⟩
theorem RjInv.full {s : List UInt8} {l : List Entry} {n : Nat} {q : Int} (h : RjInv s l n q) (hl : l.length = 60) : rdj 60 s 1 = (l, n, q) := by
  obtain ⟨_, _, h⟩ := h
  rw [hl] at h
  rw [h]; simp [rdj]
theorem RjInv.stop {s : List UInt8} {l : List Entry} {n : Nat} {q : Int} (h : RjInv s l n q) (hn : ∀ e, ¬ PfxOf (s.drop n) q e) : rdj 60 s 1 = (l, n, q) := by
  obtain ⟨_, _, h⟩ := h
  rw [rdj_none hn] at h
  rw [h]; simp
theorem RjInv.next {s : List UInt8} {l : List Entry} {n : Nat} {q : Int} {e : Entry} (h : RjInv s l n q) (hl : l.length < 60) (he : PfxOf (s.drop n) q e) : RjInv s (l ++ [e]) (n + (entT e q).size) (entSum e q) := by
  obtain ⟨_, h0, h⟩ := h
  have hk : 60 - l.length = (60 - (l ++ [e]).length) + 1 := by simp; omega
  rw [hk, rdj_some he, List.drop_drop] at h
  refine ⟨by simp; omega, ?_, ?_⟩
  · obtain ⟨_, _, t, ht⟩ := he
    have := congrArg List.length ht
    simp only [List.length_drop, List.length_append] at this
    have h1 : (entT e q).data.toList.length = (entT e q).size := by simp
    omega
  · rw [h]
    simp [Nat.add_assoc]
end Go.Proofs.YtdfemnffpaopfaaGreatDoor

