/- Texts of this proof, one behind the other: ShelfC, PsBun. -/
import Derived.Shelf.Small.Wraps
import Derived.Shelf.Small.Strs
import Derived.Shelf.Strings.Cut
import Derived.Test.YtebcdjpddoaajaaGreatDoorProg
import Derived.Test.YtebcdjpddoaajaaGreatDoorGs20
import Derived.Test.YtebcdjpddoaajaaGreatDoorGs21
import Derived.Test.YtebcdjpddoaajaaGreatDoorGs23
import Derived.Test.YtebcdjpddoaajaaGreatDoorGs27
/- strings.CutPrefix, strings.IndexByte, strings.Cut: the shelf's contracts, laid by the kit's tools. -/
namespace Go.Proofs
open Go.Shelf
def YtebcdjpddoaajaaGreatDoor.lays103_ren : Go.Shelf.Ren := ⟨fun | 103 => 89 | 210 => 116 | 206 => 128 | n => n, fun | 9 => 9 | 4 => 4 | 24 => 68 | 3 => 3 | n => n, fun | n => n⟩
theorem YtebcdjpddoaajaaGreatDoor.lays103 : Go.Proofs.Lays.n103 Tryz.prog YtebcdjpddoaajaaGreatDoor.lays103_ren := {
  mixed := by kernel_rfl
  f103 := Tryz.func89.trans (congrArg some (by kernel_rfl))
  f206 := Tryz.func128.trans (congrArg some (by kernel_rfl))
  f210 := Tryz.func116.trans (congrArg some (by kernel_rfl))
  t3 := Tryz.underlying3
  a3 := Tryz.isAgg3
  z3 := Tryz.sizeOf3
  v3 := Tryz.zeroValue3
  t4 := Tryz.underlying4
  a4 := Tryz.isAgg4
  z4 := Tryz.sizeOf4
  v4 := Tryz.zeroValue4
  t9 := Tryz.underlying9
  a9 := Tryz.isAgg9
  z9 := Tryz.sizeOf9
  v9 := Tryz.zeroValue9
  t24 := Tryz.underlying68
  a24 := Tryz.isAgg68
  z24 := Tryz.sizeOf68
  v24 := Tryz.zeroValue68 }
open Go.RowKit in
theorem YtebcdjpddoaajaaGreatDoor.strings_CutPrefix (s p : ByteArray) (w : World) :
    Calls Tryz.prog 89 #[.string s, .string p] w fun e w' => e = .returned (.tuple #[.string ⟨(Lib.trimPrefix s.data.toList p.data.toList).toArray⟩, .bool (Lib.hasPrefix s.data.toList p.data.toList)]) ∧ w' = w := Any.strings_CutPrefix YtebcdjpddoaajaaGreatDoor.lays103 s p w
def YtebcdjpddoaajaaGreatDoor.lays137_ren : Go.Shelf.Ren := ⟨fun | 137 => 78 | 217 => 109 | 266 => 126 | n => n, fun | 9 => 9 | 5 => 5 | 3 => 3 | n => n, fun | n => n⟩
theorem YtebcdjpddoaajaaGreatDoor.lays137 : Go.Proofs.Lays.n137 Tryz.prog YtebcdjpddoaajaaGreatDoor.lays137_ren := {
  mixed := by kernel_rfl
  f137 := Tryz.func78.trans (congrArg some (by kernel_rfl))
  f217 := Tryz.func109.trans (congrArg some (by kernel_rfl))
  f266 := Tryz.func126.trans (congrArg some (by kernel_rfl))
  t3 := Tryz.underlying3
  a3 := Tryz.isAgg3
  z3 := Tryz.sizeOf3
  v3 := Tryz.zeroValue3
  t5 := Tryz.underlying5
  a5 := Tryz.isAgg5
  z5 := Tryz.sizeOf5
  v5 := Tryz.zeroValue5
  t9 := Tryz.underlying9
  a9 := Tryz.isAgg9
  z9 := Tryz.sizeOf9
  v9 := Tryz.zeroValue9 }
open Go.RowKit in
theorem YtebcdjpddoaajaaGreatDoor.strings_IndexByte (s : ByteArray) (c : Int) (w : World) :
    Calls Tryz.prog 78 #[.string s, .int .u8 c] w fun e w' => e = .returned (.int .i64 (Lib.indexByte s.data.toList c.toNat.toUInt8)) ∧ w' = w := Any.strings_IndexByte YtebcdjpddoaajaaGreatDoor.lays137 s c w
def YtebcdjpddoaajaaGreatDoor.lays145_ren : Go.Shelf.Ren := ⟨fun | 145 => 110 | 220 => 127 | 219 => 135 | 217 => 109 | 225 => 146 | 224 => 147 | 267 => 148 | 266 => 126 | 314 => 154 | n => n, fun | 9 => 9 | 4 => 4 | 59 => 139 | 3 => 3 | 5 => 5 | 46 => 108 | 146 => 181 | 51 => 171 | n => n, fun | 1 => 0 | n => n⟩
theorem YtebcdjpddoaajaaGreatDoor.lays145 : Go.Proofs.Lays.n145 Tryz.prog YtebcdjpddoaajaaGreatDoor.lays145_ren := {
  mixed := by kernel_rfl
  f145 := Tryz.func110.trans (congrArg some (by kernel_rfl))
  f217 := Tryz.func109.trans (congrArg some (by kernel_rfl))
  f219 := Tryz.func135.trans (congrArg some (by kernel_rfl))
  f220 := Tryz.func127.trans (congrArg some (by kernel_rfl))
  f224 := Tryz.func147.trans (congrArg some (by kernel_rfl))
  f225 := Tryz.func146.trans (congrArg some (by kernel_rfl))
  f266 := Tryz.func126.trans (congrArg some (by kernel_rfl))
  f267 := Tryz.func148.trans (congrArg some (by kernel_rfl))
  f314 := Tryz.func154.trans (congrArg some (by kernel_rfl))
  t3 := Tryz.underlying3
  a3 := Tryz.isAgg3
  z3 := Tryz.sizeOf3
  v3 := Tryz.zeroValue3
  t4 := Tryz.underlying4
  a4 := Tryz.isAgg4
  z4 := Tryz.sizeOf4
  v4 := Tryz.zeroValue4
  t5 := Tryz.underlying5
  a5 := Tryz.isAgg5
  z5 := Tryz.sizeOf5
  v5 := Tryz.zeroValue5
  t9 := Tryz.underlying9
  a9 := Tryz.isAgg9
  z9 := Tryz.sizeOf9
  v9 := Tryz.zeroValue9
  t46 := Tryz.underlying108
  a46 := Tryz.isAgg108
  z46 := Tryz.sizeOf108
  v46 := Tryz.zeroValue108
  t51 := Tryz.underlying171
  a51 := Tryz.isAgg171
  z51 := Tryz.sizeOf171
  v51 := Tryz.zeroValue171
  t59 := Tryz.underlying139
  a59 := Tryz.isAgg139
  z59 := Tryz.sizeOf139
  v59 := Tryz.zeroValue139
  t146 := Tryz.underlying181
  a146 := Tryz.isAgg181
  z146 := Tryz.sizeOf181
  v146 := Tryz.zeroValue181
  g1 := by kernel_rfl }
open Go.RowKit in
theorem YtebcdjpddoaajaaGreatDoor.strings_Cut (s sep : ByteArray) (m : Int) (w : World) (hs : s.size < 4294967281) (hm : w.cell? ⟨0, 0, none⟩ = some (.int .i64 m)) :
    Calls Tryz.prog 110 #[.string s, .string sep] w fun e w' => e = .returned (.tuple #[.string ⟨(Lib.cut s.data.toList sep.data.toList).1.toArray⟩, .string ⟨(Lib.cut s.data.toList sep.data.toList).2.1.toArray⟩, .bool (Lib.cut s.data.toList sep.data.toList).2.2]) ∧ ∃ n, w' = w.drewN n := Any.strings_Cut YtebcdjpddoaajaaGreatDoor.lays145 s sep m w hs hm
end Go.Proofs

/- ParseBundle of the program: the bundle whose text is given. -/
namespace Go.Proofs.YtebcdjpddoaajaaGreatDoor
open Go.RowKit
set_option linter.unusedVariables false
set_option linter.unusedSimpArgs false
set_option maxHeartbeats 4000000
set_option maxRecDepth 100000

/-- what ParseBundle hands back -/
def PBPost (w : World) (s : ByteArray) (e : Ending) (w' : World) : Prop :=
  Below w.heap.size w w' ∧ ((∃ (b : Bundle) (v : Sv), psBun s = some b ∧ e = .returned (.tuple #[vBundle b.robot v.A v.n v.c, .bool true]) ∧ OwF w' v b.factors ∧ Fresh w.heap.size w' (fpF v)) ∨ (psBun s = none ∧ e = .returned (.tuple #[vBundle 0 none 0 0, .bool false])))
theorem splitL_cnt (p : UInt8 → Bool) : ∀ (l cur : List UInt8), (splitL p cur l).length ≤ l.length + 1
  | [], cur => by simp [splitL]
  | b :: l, cur => by
    rw [splitL]
    split
    · have := splitL_cnt p l []
      simp; omega
    · have := splitL_cnt p l (cur ++ [b])
      simp; omega
theorem words_cnt {s : ByteArray} {c : UInt8} {L : List ByteArray} (hL : L.map (fun x => x.data.toList) = splitL (isB c) [] s.data.toList) : L.length ≤ s.size + 1 := by
  have h := splitL_cnt (isB c) s.data.toList []
  rw [← hL] at h
  simpa using h
theorem trim_of {w : ByteArray} {t : List UInt8} : Lib.hasPrefix w.data.toList bunL0 = true → w.data.toList = bunL0 ++ Lib.trimPrefix w.data.toList bunL0 := by
  intro h
  unfold Lib.trimPrefix
  rw [if_pos h]
  unfold Lib.hasPrefix at h
  obtain ⟨r, hr⟩ := List.isPrefixOf_iff_prefix.1 h
  rw [← hr]; simp
theorem trim_app (r : List UInt8) : Lib.hasPrefix (bunL0 ++ r) bunL0 = true ∧ Lib.trimPrefix (bunL0 ++ r) bunL0 = r := by
  have h : Lib.hasPrefix (bunL0 ++ r) bunL0 = true := by unfold Lib.hasPrefix; rw [List.isPrefixOf_iff_prefix]; exact List.prefix_append _ _
  exact ⟨h, by unfold Lib.trimPrefix; rw [if_pos h]; simp⟩
/-- the first part of a bundle's text: its number behind the prefix -/
theorem head_num {w0 : ByteArray} {r : Int} (h0 : w0.data.toList = bunL0 ++ Lib.itoa r) (h1 : 0 ≤ r) (h2 : r ≤ 2) : Lib.hasPrefix w0.data.toList bunL0 = true ∧ psI ⟨(Lib.trimPrefix w0.data.toList bunL0).toArray⟩ = some r := by
  obtain ⟨a, b⟩ := trim_app (Lib.itoa r)
  rw [h0, b]
  exact ⟨a, psI_some (by omega) (by omega) rfl⟩
theorem num_head {w0 : ByteArray} {r : Int} (h : Lib.hasPrefix w0.data.toList bunL0 = true) (hp : psI ⟨(Lib.trimPrefix w0.data.toList bunL0).toArray⟩ = some r) : w0.data.toList = bunL0 ++ Lib.itoa r := by
  have e := trim_of (t := []) h
  have := (psI_text hp).2.2
  have h2 : Lib.itoa r = Lib.trimPrefix w0.data.toList bunL0 := by
    have := congrArg (fun x => x.data.toList) this
    simpa [itoaB] using this
  rw [h2]; exact e
theorem trim_size (w : ByteArray) (p : List UInt8) : (⟨(Lib.trimPrefix w.data.toList p).toArray⟩ : ByteArray).size ≤ w.size := by
  have h2 : w.data.toList.length = w.size := by simp
  show (Lib.trimPrefix w.data.toList p).toArray.size ≤ _
  rw [List.size_toArray]
  unfold Lib.trimPrefix
  split
  · rw [List.length_drop]; omega
  · omega
theorem Own.set_ {w : World} {B e sz n c : Nat} {A : Option Addr} {css : List (List Value)} (h : Own w B e sz A n c css) {p : Addr} (hp : p.block < B) (u : Value) : Own (w.setCell p u) B e sz A n c css := h.keep fun g hg => Below.heap_setCell w p u g (by have := (h.lt g hg).1; omega)
theorem bk_grown {w w' : World} {row : Option Nat} {b : Nat} {t : TypeId} {cs : List Value} (hg : w.grownBy w' row) (h : Bk w b t cs) (hn : ¬ row = some b) : Bk w' b t cs := (hg.block b h.lt (fun e => hn e.symm)).trans h
theorem vld_sz {f : Factor} (h : vldFactor f = true) : f.frm.size ≤ 1048576 ∧ f.to.size ≤ 1048576 := by
  obtain ⟨_, _, _, _, h5, h6, h7⟩ := vld_parts h
  have nm : ∀ (s : ByteArray) (c : Int), nmWith s c = true → s.size ≤ 8 := fun s c h => by
    unfold nmWith isNm at h
    simp only [Bool.and_eq_true, decide_eq_true_eq] at h
    exact h.1.1.2
  constructor
  · by_cases k : f.kind = 1
    · have e := h5 k
      rw [ByteArray.toList_eq] at e
      have : f.frm.data.toList.length = f.frm.size := by simp
      rw [show f.frm.data.toList = [] by simpa using e] at this
      simp at this; omega
    · have := nm _ _ (h6 k); omega
  · rcases h7 with h | h
    · have := nm _ _ h; omega
    · have := nm _ _ h; omega
theorem facs_sz {T : List ByteArray} {F : List Factor} (h : T.map psFac = F.map some) : ∀ f ∈ F, f.frm.size ≤ 1048576 ∧ f.to.size ≤ 1048576 := by
  intro f hf
  have h1 : some f ∈ T.map psFac := by rw [h]; exact List.mem_map.2 ⟨f, hf, rfl⟩
  obtain ⟨x, _, hx⟩ := List.mem_map.1 h1
  exact vld_sz (psFac_text hx).1
theorem bun_none_head {s w0 : ByteArray} {T : List ByteArray} (hL : (w0 :: T).map (fun x => x.data.toList) = splitL (isB 59) [] s.data.toList) (h : ¬ (Lib.hasPrefix w0.data.toList bunL0 = true ∧ (psI ⟨(Lib.trimPrefix w0.data.toList bunL0).toArray⟩).isSome = true)) : psBun s = none := by
  refine psBun_none fun b hb => h ?_
  obtain ⟨v0, U, e, h0, hT⟩ := bun_words hb hL
  simp only [List.cons.injEq] at e
  obtain ⟨rfl, rfl⟩ := e
  have hp := isBundle_parts hb.1
  obtain ⟨a, c⟩ := head_num h0 hp.1 hp.2.1
  rw [c]; exact ⟨a, rfl⟩
theorem bun_none_part {s w0 : ByteArray} {T : List ByteArray} (hL : (w0 :: T).map (fun x => x.data.toList) = splitL (isB 59) [] s.data.toList) {k : Nat} {x : ByteArray} (hk : T[k]? = some x) (hx : psFac x = none) : psBun s = none := by
  refine psBun_none fun b hb => ?_
  obtain ⟨v0, U, e, h0, hT⟩ := bun_words hb hL
  simp only [List.cons.injEq] at e
  obtain ⟨rfl, rfl⟩ := e
  have h1 : (T.map psFac)[k]? = some none := by rw [List.getElem?_map, hk]; simp [hx]
  rw [hT, List.getElem?_map] at h1
  cases hf : b.factors[k]? with
  | none => rw [hf] at h1; cases h1
  | some f => rw [hf] at h1; simp at h1
theorem bun_fin {s w0 : ByteArray} {T : List ByteArray} {r : Int} {F : List Factor} (hL : (w0 :: T).map (fun x => x.data.toList) = splitL (isB 59) [] s.data.toList) (h : Lib.hasPrefix w0.data.toList bunL0 = true) (hp : psI ⟨(Lib.trimPrefix w0.data.toList bunL0).toArray⟩ = some r) (hT : T.map psFac = F.map some) :
    (isBundle r F = true → psBun s = some ⟨r, F⟩) ∧ (isBundle r F = false → psBun s = none) := by
  constructor
  · intro hb
    exact psBun_some ⟨hb, bun_of hL (num_head h hp) hT⟩
  · intro hb
    refine psBun_none fun b hbo => ?_
    obtain ⟨v0, U, e, h0, hT2⟩ := bun_words hbo hL
    simp only [List.cons.injEq] at e
    obtain ⟨rfl, rfl⟩ := e
    rw [hT] at hT2
    have hl := map_some_inj hT2
    have hq := isBundle_parts hbo.1
    have hr := (head_num h0 hq.1 hq.2.1).2
    rw [hp] at hr
    simp only [Option.some.injEq] at hr
    have := hbo.1
    rw [← hl, ← hr, hb] at this; cases this
def zFac' : Factor := ⟨0, 0, ⟨#[]⟩, ⟨#[]⟩, ⟨0, 0, 0⟩, 0⟩
theorem vFacO_eq (o : Option Factor) : vFacO o = .tuple #[vFactor (o.getD zFac').id (o.getD zFac').kind (o.getD zFac').frm (o.getD zFac').to (o.getD zFac').pose.turn (o.getD zFac').pose.x (o.getD zFac').pose.y (o.getD zFac').weight, .bool o.isSome] := by cases o <;> rfl
theorem b2 {a w : World} (h : Below a.heap.size a w) {b : Nat} (hb : a.heap.size ≤ b) (u0 u1 : Value) : Below a.heap.size a ((w.setCell ⟨b, 0, none⟩ u0).setCell ⟨b, 1, none⟩ u1) := bSet (bSet h hb u0) hb u1
theorem map_snoc {T : List ByteArray} {F : List Factor} {k : Nat} {x : ByteArray} {f : Factor} (h : (T.take k).map psFac = F.map some) (hk : T[k]? = some x) (hf : psFac x = some f) : (T.take (k + 1)).map psFac = (F ++ [f]).map some := by
  obtain ⟨hi, he⟩ := List.getElem?_eq_some_iff.1 hk
  rw [List.take_succ_eq_append_getElem hi, List.map_append, List.map_append, h, he]
  simp [hf]
theorem impl_ParseBundle_c (s : ByteArray) (w : World) (hs : s.size ≤ 1048576) (hT : TabE w) : Calls Tryz.prog 64 #[.string s] w fun e w' => PBPost w s e w' := by
  obtain ⟨i0, hii, hq0, hq1, hq2⟩ := info_parts info_Factor
  have HT := Lib.hid hT
  clear hT
  go_enter Tryz.func64, Tryz.ntmps64
  go_wp2_with fail
  refine Calls.mono (impl_SplitAny_k s 59 _ (by omega)) ?_
  rintro e w1_ ⟨v, L, rfl, ho, hL, hb1⟩
  have bx1 := (Bk.new w [.int .i64 0, .slice none 0 0] 72 _ rfl).below hb1
  have B1 : Below w.heap.size w w1_ := bTrans (bAlloc (Below.refl _ _) _) hb1
  have HL := Lib.hid hL
  have hlen : L.length = v.n := by have := ho.lens; simpa [Hid] using this
  have hrow : RowS w1_ v.A v.n L := ho.row
  have hws := word_size hL
  have hcnt := words_cnt hL
  have hnc := ho.nc
  simp only [maxLen] at hnc
  have HT1 := Lib.hid (HT.out.below B1)
  have hne : L ≠ [] := by
    intro h; rw [h] at hL; exact splitL_ne _ _ _ hL.symm
  clear hb1 ho hL HT
  obtain ⟨A, n, c⟩ := v
  simp only at hlen hrow hnc
  obtain ⟨w0, T, rfl⟩ : ∃ w0 T, L = w0 :: T := by
    cases L with
    | nil => exact absurd rfl hne
    | cons a l => exact ⟨a, l, rfl⟩
  obtain ⟨m, rfl⟩ : ∃ m, n = m + 1 := ⟨n - 1, by simp at hlen; omega⟩
  obtain ⟨d, rfl⟩ : ∃ d, c = d + 1 := ⟨c - 1, by omega⟩
  have hTl : T.length = m := by simpa using hlen
  have hms : m ≤ 1048576 := by simp at hcnt; omega
  obtain ⟨g, off, rfl⟩ := hrow.some_ (by omega)
  have c0 := RowS.get hrow (k := 0) (f := w0) rfl
  simp only [Nat.add_zero] at c0
  have hz0 := hws w0 (by simp)
  have HWS := Lib.hid (fun x hx => hws x (List.mem_cons_of_mem w0 hx))
  have hrow1 : RowS w1_ (some ⟨g, off + 1, none⟩) m T := by
    have := Row.drop_ (c := strCells) hrow (k := 1) (by omega)
    simpa using this
  have HROW := Lib.hid hrow1
  obtain ⟨num, hnum⟩ : ∃ x, x = (⟨(Lib.trimPrefix w0.data.toList bunL0).toArray⟩ : ByteArray) := ⟨_, rfl⟩
  obtain ⟨hp, hhp⟩ : ∃ x, x = Lib.hasPrefix w0.data.toList bunL0 := ⟨_, rfl⟩
  have hnz : num.size ≤ s.size := by rw [hnum]; have := trim_size w0 bunL0; omega
  have hnc2 : (m : Int) + 1 ≤ (d : Int) + 1 := by omega
  clear hws hne hrow hrow1 hcnt
  have HNUM := Lib.hid hnum
  have HHP := Lib.hid hhp
  clear hnum hhp
  go_wp2_with (go_at_call 89; refine (YtebcdjpddoaajaaGreatDoor.strings_CutPrefix w0 _ _).mono ?_; rw [show (ByteArray.mk #[98, 117, 110, 100, 108, 101, 32]).data.toList = bunL0 from rfl, ← HNUM.out, ← HHP.out]; rintro e w2_ ⟨rfl, rfl⟩)
  refine Calls.mono (impl_ParseInt_c num _ (by omega) HT1.out) ?_
  rintro e w3_ ⟨rfl, hb3⟩
  have B23 := Lib.hid hb3
  have bx3 := bx1.below hb3
  have B3 := bTrans B1 hb3
  have HT3 := Lib.hid (HT1.out.below hb3)
  have hz3 := hb3.size
  have hBsz := B3.size
  have hg1 := cell_lt c0
  clear hb3 bx1 B1 c0
  by_cases hok : hp = true ∧ (psI num).isSome = true
  · obtain ⟨rfl, hsome⟩ := hok
    obtain ⟨r, hr⟩ := Option.isSome_iff_exists.1 hsome
    rw [hr, show vPair (some r) = .tuple #[.int .i64 r, .bool true] from rfl]
    have HEND := Lib.hid (fun F hF => bun_fin (F := F) HL.out HHP.out.symm (HNUM.out ▸ hr) hF)
    clear hsome hr
    by_cases hd : d = 0
    · subst hd
      have hm0 : m = 0 := by omega
      go_wp2_with fail
      go_loopw [40] (fun iv wr => ∃ (k : Nat) (A' : Option Addr) (c' : Nat) (F : List Factor), iv = .int .i64 (k : Int) ∧ k ≤ m ∧ F.length = k ∧ (T.take k).map psFac = F.map some ∧ Own wr (w3_.heap.size + 1) 38 8 A' k c' (F.map Factor.cells) ∧ Bk wr w3_.heap.size 72 [.int .i64 r, .slice A' k c'] ∧ Below w3_.heap.size w3_ wr) (fun iv _ => m - (intOf iv).toNat)
      case atStart => exact ⟨0, none, 0, [], rfl, by omega, rfl, rfl, Own.nil_ _ _ _ _, Bk.new w3_ [.int .i64 r, .slice none 0 0] 72 _ rfl, bAlloc (Below.refl _ _) _⟩
      case round =>
        obtain ⟨k, A', c', F, rfl, hk, hFl, hF, ho, hp, hbr⟩ := hrel
        have HO := Lib.hid ho; have HF := Lib.hid hF; clear ho hF
        have hszr := hbr.size
        have hlt : ¬ k < m := by omega
        clear hm0 hnc hnc2
        obtain rfl : k = m := by omega
        have hkk : ¬ (k : Int) < (k : Int) := by omega
        have hTk : T.take k = T := List.take_of_length_le (by omega)
        have hF2 := HF.out; rw [hTk] at hF2
        have hend := HEND.out F hF2
        have hsz : ∀ f ∈ F, f.frm.size ≤ 1048576 ∧ f.to.size ≤ 1048576 := facs_sz hF2
        clear hF2 hTk
        have q0 := hp.bx.cells 0 _ rfl; have q1 := hp.bx.cells 1 _ rfl; have qf := hp.bx.froz; have qz := hp.lt
        cases hv : isBundle r F with
        | false =>
          have HN := Lib.hid (hend.2 hv)
          have HV := Lib.hid hv
          clear hend hv
          go_wp2_with (go_at_call 61; refine (impl_IsValidBundle_c r A' k c' F _ (by omega) (HO.out.row) hsz).mono ?_; rw [HV.out]; rintro e w6_ ⟨rfl, hb6⟩; have hp6 := hp.below hb6; have hbr6 := bTrans hbr hb6; have bx6 := bx3.below hbr6; have s0 := hp6.bx.cells 0 _ rfl; have s1 := hp6.bx.cells 1 _ rfl; have sf := hp6.bx.froz; have sz := hp6.lt; have r0 := bx6.bx.cells 0 _ rfl; have r1 := bx6.bx.cells 1 _ rfl; have rf := bx6.bx.froz; have rz := bx6.lt)
          refine bodyPost_ret (v := .tuple #[vBundle 0 none 0 0, .bool false]) (by simp [*, results, Tryz.results64, go_sem]) rfl ⟨?_, .inr ⟨HN.out, rfl⟩⟩
          exact b2 (bTrans B3 hbr6) (Nat.le_refl _) _ _
        | true =>
          have HP := Lib.hid (hend.1 hv)
          have HV := Lib.hid hv
          clear hend hv
          go_wp2_with (go_at_call 61; refine (impl_IsValidBundle_c r A' k c' F _ (by omega) (HO.out.row) hsz).mono ?_; rw [HV.out]; rintro e w6_ ⟨rfl, hb6⟩; have hp6 := hp.below hb6; have hbr6 := bTrans hbr hb6; have bx6 := bx3.below hbr6; have s0 := hp6.bx.cells 0 _ rfl; have s1 := hp6.bx.cells 1 _ rfl; have sf := hp6.bx.froz; have sz := hp6.lt; have r0 := bx6.bx.cells 0 _ rfl; have r1 := bx6.bx.cells 1 _ rfl; have rf := bx6.bx.froz; have rz := bx6.lt)
          have ho7 := Own.set_ (Own.set_ (HO.out.below hb6) (p := ⟨w.heap.size, 0, none⟩) (by simp only; omega) (.int .i64 r)) (p := ⟨w.heap.size, 1, none⟩) (by simp only; omega) (.slice A' k c')
          refine bodyPost_ret (v := .tuple #[vBundle r A' k c', .bool true]) (by simp [*, results, Tryz.results64, go_sem]) rfl ⟨?_, .inl ⟨⟨r, F⟩, ⟨A', k, c'⟩, HP.out, rfl, ho7.zero, Fresh.rebase (Fresh.obl_ ho7) (by omega)⟩⟩
          exact b2 (bTrans B3 hbr6) (Nat.le_refl _) _ _
    · have hd1 : (1 : Int) < (d : Int) + 1 := by omega
      go_wp2_with fail
      go_loopw [40] (fun iv wr => ∃ (k : Nat) (A' : Option Addr) (c' : Nat) (F : List Factor), iv = .int .i64 (k : Int) ∧ k ≤ m ∧ F.length = k ∧ (T.take k).map psFac = F.map some ∧ Own wr (w3_.heap.size + 1) 38 8 A' k c' (F.map Factor.cells) ∧ Bk wr w3_.heap.size 72 [.int .i64 r, .slice A' k c'] ∧ Below w3_.heap.size w3_ wr) (fun iv _ => m - (intOf iv).toNat)
      case atStart => exact ⟨0, none, 0, [], rfl, by omega, rfl, rfl, Own.nil_ _ _ _ _, Bk.new w3_ [.int .i64 r, .slice none 0 0] 72 _ rfl, bAlloc (Below.refl _ _) _⟩
      case round =>
        obtain ⟨k, A', c', F, rfl, hk, hFl, hF, ho, hp, hbr⟩ := hrel
        have HO := Lib.hid ho; have HF := Lib.hid hF; clear ho hF
        have hszr := hbr.size
        by_cases hlt : k < m
        · obtain ⟨x, hx⟩ := ex_at (L := T) (k := k) (by omega)
          have cx := bCell hbr (bCell B23.out (RowS.get HROW.out hx))
          have hxs := HWS.out x (List.mem_of_getElem? hx)
          have hi0 : (0 : Int) ≤ (k : Int) := by omega
          have hi1 : (k : Int) < (m : Int) := by omega
          have HXP := Lib.hid hx
          clear hx
          go_wp2_with fail
          refine Calls.mono (impl_ParseFactor_c x _ (by omega) (HT3.out.below hbr)) ?_
          rintro e w4_ ⟨rfl, hb4⟩
          clear cx
          have hbr4 := bTrans hbr hb4
          have hp4 := hp.below hb4
          have HO4 := Lib.hid (HO.out.below hb4)
          cases hpf : psFac x with
          | none =>
            have HN := Lib.hid (bun_none_part HL.out HXP.out hpf)
            rw [show vFacO none = .tuple #[vFactor 0 0 ⟨#[]⟩ ⟨#[]⟩ 0 0 0 0, .bool false] from rfl]
            have bx5 := (bx3.below hbr4).alloc_ (.cells #[.int .i64 0, .int .i64 0, .string ⟨#[]⟩, .string ⟨#[]⟩, .int .i64 0, .int .i64 0, .int .i64 0, .int .i64 0] 38)
            have r0 := bx5.bx.cells 0 _ rfl; have r1 := bx5.bx.cells 1 _ rfl; have rf := bx5.bx.froz; have rz := bx5.lt
            go_wp2_with fail
            refine bodyPost_ret (v := .tuple #[vBundle 0 none 0 0, .bool false]) (by simp [*, results, Tryz.results64, go_sem]) rfl ⟨?_, .inr ⟨HN.out, rfl⟩⟩
            exact b2 (bAlloc (bTrans B3 hbr4) _) (Nat.le_refl _) _ _
          | some f =>
            rw [show vFacO (some f) = .tuple #[vFactor f.id f.kind f.frm f.to f.pose.turn f.pose.x f.pose.y f.weight, .bool true] from rfl]
            have HS := Lib.hid (map_snoc HF.out HXP.out hpf)
            clear hpf HXP HF
            have hp5 := hp4.alloc_ (.cells f.cells.toArray 38)
            have hsz4 := hbr4.size
            have hnP : ¬ w3_.heap.size = w4_.heap.size := by have := hp4.lt; omega
            have q0 := hp4.bx.cells 0 _ rfl; have q1 := hp4.bx.cells 1 _ rfl; have qf := hp4.bx.froz; have qz := hp4.lt
            have s0 := hp5.bx.cells 0 _ rfl; have s1 := hp5.bx.cells 1 _ rfl; have sf := hp5.bx.froz; have sz := hp5.lt
            go_wp2_with (at_builtin; refine wpList_append rfl (.tmp 53) (.tmp 55) 22 rfl (w3_.heap.size + 1) 38 8 80 i0 _ Tryz.underlying22 hii hq0 hq1 hq2 rfl (by omega) A' k c' (F.map Factor.cells) rfl ((HO4.out.alloc_ _).alloc_ _) _ 1 1 [f.cells] rfl (Row.new1' _ _ f.cells 8 _ (by simp)) (by simp [Factor.cells]) (by simp [Factor.cells, Value.oneCell']) (by simp only [maxLen]; omega) (by omega) (by simp; omega) ?_; intro A5 c5 w5_ ho5 hg5 hat5; have hp6 := (hp4.alloc_ (.cells f.cells.toArray 38)).alloc_ (.cells f.cells.toArray 38); have hp7 := bk_grown hg5 hp6 (fun e => by have := (HO4.out.lt _ e).1; omega); have t0 := hp7.bx.cells 0 _ rfl; have t1 := hp7.bx.cells 1 _ rfl; have tf := hp7.bx.froz; have tz := hp7.lt)
            have ho6 : Own (w5_.setCell ⟨w3_.heap.size, 1, none⟩ (.slice A5 (k + 1) c5)) (w3_.heap.size + 1) 38 8 A5 (k + 1) c5 ((F ++ [f]).map Factor.cells) := by rw [List.map_append]; exact Own.set_ ho5 (by simp only; omega) _
            exact ⟨⟨k + 1, A5, c5, F ++ [f], by simp, by omega, by simp [hFl], HS.out, ho6, hp7.set 1 _, bSet (bGrown (bAlloc (bAlloc hbr4 _) _) hg5 (fun q hq => by have := (HO4.out.lt q hq).1; omega)) (Nat.le_refl _) _⟩, by simp only [intOf]; omega⟩
        · obtain rfl : k = m := by omega
          have hkk : ¬ (k : Int) < (k : Int) := by omega
          have hTk : T.take k = T := List.take_of_length_le (by omega)
          have hF2 := HF.out; rw [hTk] at hF2
          have hend := HEND.out F hF2
          have hsz : ∀ f ∈ F, f.frm.size ≤ 1048576 ∧ f.to.size ≤ 1048576 := facs_sz hF2
          clear hF2 hTk
          have q0 := hp.bx.cells 0 _ rfl; have q1 := hp.bx.cells 1 _ rfl; have qf := hp.bx.froz; have qz := hp.lt
          cases hv : isBundle r F with
          | false =>
            have HN := Lib.hid (hend.2 hv)
            have HV := Lib.hid hv
            clear hend hv
            go_wp2_with (go_at_call 61; refine (impl_IsValidBundle_c r A' k c' F _ (by omega) (HO.out.row) hsz).mono ?_; rw [HV.out]; rintro e w6_ ⟨rfl, hb6⟩; have hp6 := hp.below hb6; have hbr6 := bTrans hbr hb6; have bx6 := bx3.below hbr6; have s0 := hp6.bx.cells 0 _ rfl; have s1 := hp6.bx.cells 1 _ rfl; have sf := hp6.bx.froz; have sz := hp6.lt; have r0 := bx6.bx.cells 0 _ rfl; have r1 := bx6.bx.cells 1 _ rfl; have rf := bx6.bx.froz; have rz := bx6.lt)
            refine bodyPost_ret (v := .tuple #[vBundle 0 none 0 0, .bool false]) (by simp [*, results, Tryz.results64, go_sem]) rfl ⟨?_, .inr ⟨HN.out, rfl⟩⟩
            exact b2 (bTrans B3 hbr6) (Nat.le_refl _) _ _
          | true =>
            have HP := Lib.hid (hend.1 hv)
            have HV := Lib.hid hv
            clear hend hv
            go_wp2_with (go_at_call 61; refine (impl_IsValidBundle_c r A' k c' F _ (by omega) (HO.out.row) hsz).mono ?_; rw [HV.out]; rintro e w6_ ⟨rfl, hb6⟩; have hp6 := hp.below hb6; have hbr6 := bTrans hbr hb6; have bx6 := bx3.below hbr6; have s0 := hp6.bx.cells 0 _ rfl; have s1 := hp6.bx.cells 1 _ rfl; have sf := hp6.bx.froz; have sz := hp6.lt; have r0 := bx6.bx.cells 0 _ rfl; have r1 := bx6.bx.cells 1 _ rfl; have rf := bx6.bx.froz; have rz := bx6.lt)
            have ho7 := Own.set_ (Own.set_ (HO.out.below hb6) (p := ⟨w.heap.size, 0, none⟩) (by simp only; omega) (.int .i64 r)) (p := ⟨w.heap.size, 1, none⟩) (by simp only; omega) (.slice A' k c')
            refine bodyPost_ret (v := .tuple #[vBundle r A' k c', .bool true]) (by simp [*, results, Tryz.results64, go_sem]) rfl ⟨?_, .inl ⟨⟨r, F⟩, ⟨A', k, c'⟩, HP.out, rfl, ho7.zero, Fresh.rebase (Fresh.obl_ ho7) (by omega)⟩⟩
            exact b2 (bTrans B3 hbr6) (Nat.le_refl _) _ _
  · have HN := Lib.hid (bun_none_head HL.out (by rw [← HHP.out, ← HNUM.out]; exact hok))
    have HV := Lib.hid (vPair_eq (psI num))
    rw [HV.out]
    generalize (psI num).isSome = o at *
    have r0 := bx3.bx.cells 0 _ rfl; have r1 := bx3.bx.cells 1 _ rfl; have rf := bx3.bx.froz; have rz := bx3.lt
    cases hp <;> cases o <;> first | (exact absurd ⟨rfl, rfl⟩ hok) | (clear hok; go_wp2_with fail; (refine bodyPost_ret (v := .tuple #[vBundle 0 none 0 0, .bool false]) (by simp [*, results, Tryz.results64, go_sem]) rfl ⟨?_, .inr ⟨HN.out, rfl⟩⟩); exact b2 B3 (Nat.le_refl _) _ _)
end Go.Proofs.YtebcdjpddoaajaaGreatDoor
