/- Texts of this proof, one behind the other: PsEnt, PrsJ. -/
import Derived.Test.YtebcdjpddoaajaaGreatDoorGs22
import Derived.Test.YtebcdjpddoaajaaGreatDoorGs28
/- parseEntry of the program: the entry whose line is given. -/
namespace Go.Proofs.YtebcdjpddoaajaaGreatDoor
open Go.RowKit
set_option linter.unusedVariables false
set_option linter.unusedSimpArgs false
set_option maxHeartbeats 4000000
set_option maxRecDepth 100000

/-- what strings.Cut reads too -/
def TabJ (w : World) : Prop := TabE w ∧ ∃ m, w.cell? ⟨0, 0, none⟩ = some (.int .i64 m)
theorem TabJ.below {w w' : World} (h : TabJ w) (hb : Below w.heap.size w w') : TabJ w' := by
  obtain ⟨h1, m, h2⟩ := h
  exact ⟨h1.below hb, m, bCell hb h2⟩
def vEntryE (e : Entry) : Value := vEntry e.remove e.id e.factor.id e.factor.kind e.factor.frm e.factor.to e.factor.pose.turn e.factor.pose.x e.factor.pose.y e.factor.weight
/-- an entry as memory can hold it -/
def entOk (e : Entry) : Prop := e.factor.frm.size ≤ 1048576 ∧ e.factor.to.size ≤ 1048576 ∧ -9223372036854775808 ≤ e.id ∧ e.id ≤ 9223372036854775807
/-- what a line's parser hands back: if the line is that of an entry, this one -/
def EntRes (ln : List UInt8) (w : World) (e : Ending) (w' : World) : Prop :=
  ∃ (en : Entry) (ok : Bool), e = .returned (.tuple #[vEntryE en, .bool ok]) ∧ entOk en ∧ (∀ p g, EntOf ln p g → g = en ∧ ok = true) ∧ Below w.heap.size w w'
theorem pre_app (q r : List UInt8) : Lib.hasPrefix (q ++ r) q = true ∧ Lib.trimPrefix (q ++ r) q = r := by
  have h : Lib.hasPrefix (q ++ r) q = true := by unfold Lib.hasPrefix; rw [List.isPrefixOf_iff_prefix]; exact List.prefix_append _ _
  exact ⟨h, by unfold Lib.trimPrefix; rw [if_pos h]; simp⟩
theorem pre_rem (r : List UInt8) : Lib.hasPrefix (remL ++ r) addL = false := by
  simp [Lib.hasPrefix, remL, addL, List.isPrefixOf]
theorem par_no {ln A B : List UInt8} (hc : Lib.cut ln [32, 35] = (A, B, false)) (p : Int) (g : Entry) : ¬ EntOf ln p g := by
  intro h
  rw [ent_cut h] at hc
  simp at hc
theorem par_add {ln A B : List UInt8} (hc : Lib.cut ln [32, 35] = (A, B, true)) (ha : Lib.hasPrefix A addL = true) {p : Int} {g : Entry} (h : EntOf ln p g) : ∃ f, g = ⟨false, 0, f⟩ ∧ psFac ⟨(Lib.trimPrefix A addL).toArray⟩ = some f := by
  rw [ent_cut h] at hc
  have e1 : A = entL g := (Prod.mk.inj hc).1.symm
  rcases ent_kinds h.1 with ⟨f, hg, hv, he⟩ | ⟨n, hg, hn, he⟩
  · refine ⟨f, hg, psFac_some ⟨hv, ?_⟩⟩
    rw [e1, he, (pre_app addL (facL f)).2]
  · rw [e1, he, pre_rem] at ha; cases ha
theorem par_rem {ln A B : List UInt8} (hc : Lib.cut ln [32, 35] = (A, B, true)) (ha : Lib.hasPrefix A addL = false) {p : Int} {g : Entry} (h : EntOf ln p g) : ∃ n, g = ⟨true, n, zFac⟩ ∧ Lib.hasPrefix A remL = true ∧ psI ⟨(Lib.trimPrefix A remL).toArray⟩ = some n := by
  rw [ent_cut h] at hc
  have e1 : A = entL g := (Prod.mk.inj hc).1.symm
  rcases ent_kinds h.1 with ⟨f, hg, hv, he⟩ | ⟨n, hg, hn, he⟩
  · rw [e1, he, (pre_app addL (facL f)).1] at ha; cases ha
  · obtain ⟨q1, q2⟩ := pre_app remL (Lib.itoa n)
    refine ⟨n, hg, by rw [e1, he]; exact q1, psI_some (by omega) (by omega) ?_⟩
    rw [e1, he, q2]; rfl
theorem cut_len (ln sep : List UInt8) : (Lib.cut ln sep).1.length ≤ ln.length := by
  unfold Lib.cut
  split
  · simp only [List.length_take]; omega
  · exact Nat.le_refl _
theorem trim_len (l p : List UInt8) : (Lib.trimPrefix l p).length ≤ l.length := by
  unfold Lib.trimPrefix
  split
  · rw [List.length_drop]; omega
  · exact Nat.le_refl _
theorem b10 {a w : World} (h : Below a.heap.size a w) {b : Nat} (hb : a.heap.size ≤ b) (u0 u1 u2 u3 u4 u5 u6 u7 u8 u9 : Value) : Below a.heap.size a ((((((((((w.setCell ⟨b, 0, none⟩ u0).setCell ⟨b, 1, none⟩ u1).setCell ⟨b, 2, none⟩ u2).setCell ⟨b, 3, none⟩ u3).setCell ⟨b, 4, none⟩ u4).setCell ⟨b, 5, none⟩ u5).setCell ⟨b, 6, none⟩ u6).setCell ⟨b, 7, none⟩ u7).setCell ⟨b, 8, none⟩ u8).setCell ⟨b, 9, none⟩ u9) := bSet (bSet (bSet (bSet (bSet (bSet (bSet (bSet (bSet (bSet h hb u0) hb u1) hb u2) hb u3) hb u4) hb u5) hb u6) hb u7) hb u8) hb u9
theorem zFac_ok (r : Bool) {n : Int} (h0 : -9223372036854775808 ≤ n) (h1 : n ≤ 9223372036854775807) : entOk ⟨r, n, zFac⟩ := ⟨by show (0 : Nat) ≤ 1048576; omega, by show (0 : Nat) ≤ 1048576; omega, h0, h1⟩
theorem impl_parseEntry_c (s : ByteArray) (w : World) (hs : s.size ≤ 1048576) (hT : TabJ w) : Calls Tryz.prog 79 #[.string s] w fun e w' => EntRes s.data.toList w e w' := by
  obtain ⟨hTE, mm, hmm⟩ := hT
  have HT := Lib.hid hTE
  have hM := bCell (bAlloc (Below.refl _ _) (.cells #[.bool false, .int .i64 0, .int .i64 0, .int .i64 0, .string ⟨#[]⟩, .string ⟨#[]⟩, .int .i64 0, .int .i64 0, .int .i64 0, .int .i64 0] 46)) hmm
  have HM := Lib.hid hM
  obtain ⟨A, B, fd, hcut⟩ : ∃ A B fd, Lib.cut s.data.toList [32, 35] = (A, B, fd) := ⟨_, _, _, rfl⟩
  have hsl : s.data.toList.length = s.size := by simp
  have hAl : A.length ≤ s.size := by have := cut_len s.data.toList [32, 35]; rw [hcut] at this; simp only at this; omega
  have hAs : (⟨A.toArray⟩ : ByteArray).size = A.length := by rw [bsz]
  have HC := Lib.hid hcut
  clear hTE hmm hM hcut
  go_enter Tryz.func79, Tryz.ntmps79
  go_wp2_with fail
  refine Calls.mono (YtebcdjpddoaajaaGreatDoor.strings_Cut s _ mm _ (by omega) HM.out) ?_
  rw [show Lib.cut s.data.toList (ByteArray.mk #[32, 35]).data.toList = (A, B, fd) from HC.out]
  rintro e w1_ ⟨rfl, nd, hw1⟩
  have bx1 : Bk w1_ w.heap.size 46 [.bool false, .int .i64 0, .int .i64 0, .int .i64 0, .string ⟨#[]⟩, .string ⟨#[]⟩, .int .i64 0, .int .i64 0, .int .i64 0, .int .i64 0] := by rw [hw1]; exact (Bk.new w [.bool false, .int .i64 0, .int .i64 0, .int .i64 0, .string ⟨#[]⟩, .string ⟨#[]⟩, .int .i64 0, .int .i64 0, .int .i64 0, .int .i64 0] 46 _ rfl).below (bDrewN (Below.refl _ _) nd)
  have B1 : Below w.heap.size w w1_ := by rw [hw1]; exact bDrewN (bAlloc (Below.refl _ _) (.cells #[.bool false, .int .i64 0, .int .i64 0, .int .i64 0, .string ⟨#[]⟩, .string ⟨#[]⟩, .int .i64 0, .int .i64 0, .int .i64 0, .int .i64 0] 46)) nd
  have HT1 := Lib.hid (HT.out.below B1)
  clear hw1 HM HT
  cases fd with
  | false =>
    have HN := Lib.hid (par_no HC.out)
    have r0 := bx1.bx.cells 0 _ rfl; have r1 := bx1.bx.cells 1 _ rfl; have r2 := bx1.bx.cells 2 _ rfl; have r3 := bx1.bx.cells 3 _ rfl; have r4 := bx1.bx.cells 4 _ rfl; have r5 := bx1.bx.cells 5 _ rfl; have r6 := bx1.bx.cells 6 _ rfl; have r7 := bx1.bx.cells 7 _ rfl; have r8 := bx1.bx.cells 8 _ rfl; have r9 := bx1.bx.cells 9 _ rfl; have rf := bx1.bx.froz; have rz := bx1.lt
    go_wp2_with fail
    refine bodyPost_ret (v := .tuple #[vEntryE (⟨false, 0, zFac⟩), .bool false]) (by simp [*, vEntryE, zFac, results, Tryz.results79, go_sem]) rfl ⟨⟨false, 0, zFac⟩, false, rfl, ?_, ?_, ?_⟩
    · exact zFac_ok _ (by omega) (by omega)
    · intro p g h; exact absurd h (HN.out p g)
    · exact b10 B1 (Nat.le_refl _) _ _ _ _ _ _ _ _ _ _
  | true =>
    cases hpa : Lib.hasPrefix A addL with
    | true =>
      have HPA := Lib.hid (fun p g h => par_add HC.out hpa (p := p) (g := g) h)
      have HP := Lib.hid hpa
      obtain ⟨rest, hrest⟩ : ∃ x, x = (⟨(Lib.trimPrefix A addL).toArray⟩ : ByteArray) := ⟨_, rfl⟩
      have hrs : rest.size ≤ s.size := by rw [hrest, bsz]; have := trim_len A addL; omega
      rw [← hrest] at HPA
      have HR := Lib.hid hrest
      clear hpa hrest
      go_wp2_with fail
      refine Calls.mono (YtebcdjpddoaajaaGreatDoor.strings_CutPrefix ⟨A.toArray⟩ _ _) ?_
      rw [show (ByteArray.mk #[97, 100, 100, 32]).data.toList = addL from rfl, show (ByteArray.mk A.toArray).data.toList = A from List.toList_toArray .., ← HR.out, HP.out]
      rintro e w2_ ⟨rfl, hw2⟩
      subst hw2
      go_wp2_with fail
      refine Calls.mono (impl_ParseFactor_c rest _ (by omega) HT1.out) ?_
      rintro e w3_ ⟨rfl, hb3⟩
      have bx3 := bx1.below hb3
      have B3 := bTrans B1 hb3
      clear hb3 bx1 B1
      cases hpf : psFac rest with
      | none =>
        rw [show vFacO none = .tuple #[vFactor 0 0 ⟨#[]⟩ ⟨#[]⟩ 0 0 0 0, .bool false] from rfl]
        have HN := Lib.hid (show ∀ p g, ¬ EntOf s.data.toList p g from fun p g h => by obtain ⟨f, _, hf⟩ := HPA.out p g h; rw [hpf] at hf; cases hf)
        have bx4 := bx3.alloc_ (.cells #[.int .i64 0, .int .i64 0, .string ⟨#[]⟩, .string ⟨#[]⟩, .int .i64 0, .int .i64 0, .int .i64 0, .int .i64 0] 38)
        have r0 := bx4.bx.cells 0 _ rfl; have r1 := bx4.bx.cells 1 _ rfl; have r2 := bx4.bx.cells 2 _ rfl; have r3 := bx4.bx.cells 3 _ rfl; have r4 := bx4.bx.cells 4 _ rfl; have r5 := bx4.bx.cells 5 _ rfl; have r6 := bx4.bx.cells 6 _ rfl; have r7 := bx4.bx.cells 7 _ rfl; have r8 := bx4.bx.cells 8 _ rfl; have r9 := bx4.bx.cells 9 _ rfl; have rf := bx4.bx.froz; have rz := bx4.lt
        clear hpf
        go_wp2_with fail
        refine bodyPost_ret (v := .tuple #[vEntryE (⟨false, 0, zFac⟩), .bool false]) (by simp [*, vEntryE, zFac, results, Tryz.results79, go_sem]) rfl ⟨⟨false, 0, zFac⟩, false, rfl, ?_, ?_, ?_⟩
        · exact zFac_ok _ (by omega) (by omega)
        · intro p g h; exact absurd h (HN.out p g)
        · exact b10 (bAlloc B3 _) (Nat.le_refl _) _ _ _ _ _ _ _ _ _ _
      | some f =>
        rw [show vFacO (some f) = .tuple #[vFactor f.id f.kind f.frm f.to f.pose.turn f.pose.x f.pose.y f.weight, .bool true] from rfl]
        have HN := Lib.hid (show ∀ p g, EntOf s.data.toList p g → g = ⟨false, 0, f⟩ ∧ true = true from fun p g h => by obtain ⟨f', hg, hf⟩ := HPA.out p g h; rw [hpf] at hf; injection hf with hf; rw [hg, hf]; exact ⟨rfl, rfl⟩)
        have HSZ := Lib.hid (vld_sz (psFac_text hpf).1)
        have bx4 := bx3.alloc_ (.cells #[.int .i64 f.id, .int .i64 f.kind, .string f.frm, .string f.to, .int .i64 f.pose.turn, .int .i64 f.pose.x, .int .i64 f.pose.y, .int .i64 f.weight] 38)
        have r0 := bx4.bx.cells 0 _ rfl; have r1 := bx4.bx.cells 1 _ rfl; have r2 := bx4.bx.cells 2 _ rfl; have r3 := bx4.bx.cells 3 _ rfl; have r4 := bx4.bx.cells 4 _ rfl; have r5 := bx4.bx.cells 5 _ rfl; have r6 := bx4.bx.cells 6 _ rfl; have r7 := bx4.bx.cells 7 _ rfl; have r8 := bx4.bx.cells 8 _ rfl; have r9 := bx4.bx.cells 9 _ rfl; have rf := bx4.bx.froz; have rz := bx4.lt
        clear hpf
        go_wp2_with fail
        refine bodyPost_ret (v := .tuple #[vEntryE (⟨false, 0, f⟩), .bool true]) (by simp [*, vEntryE, zFac, results, Tryz.results79, go_sem]) rfl ⟨⟨false, 0, f⟩, true, rfl, ?_, ?_, ?_⟩
        · exact ⟨HSZ.out.1, HSZ.out.2, by show (-9223372036854775808 : Int) ≤ 0; omega, by show (0 : Int) ≤ _; omega⟩
        · intro p g h; exact ⟨(HN.out p g h).1, rfl⟩
        · exact b10 (bAlloc B3 _) (Nat.le_refl _) _ _ _ _ _ _ _ _ _ _
    | false =>
      have HPA := Lib.hid (fun p g h => par_rem HC.out hpa (p := p) (g := g) h)
      have HP := Lib.hid hpa
      obtain ⟨rest, hrest⟩ : ∃ x, x = (⟨(Lib.trimPrefix A remL).toArray⟩ : ByteArray) := ⟨_, rfl⟩
      obtain ⟨hp2, hhp2⟩ : ∃ x, x = Lib.hasPrefix A remL := ⟨_, rfl⟩
      obtain ⟨rst0, hrst0⟩ : ∃ x, x = (⟨(Lib.trimPrefix A addL).toArray⟩ : ByteArray) := ⟨_, rfl⟩
      have hrs : rest.size ≤ s.size := by rw [hrest, bsz]; have := trim_len A remL; omega
      rw [← hrest, ← hhp2] at HPA
      have HR := Lib.hid hrest
      have HR0 := Lib.hid hrst0
      have HH := Lib.hid hhp2
      clear hpa hrest hrst0 hhp2
      go_wp2_with fail
      refine Calls.mono (YtebcdjpddoaajaaGreatDoor.strings_CutPrefix ⟨A.toArray⟩ _ _) ?_
      rw [show (ByteArray.mk #[97, 100, 100, 32]).data.toList = addL from rfl, show (ByteArray.mk A.toArray).data.toList = A from List.toList_toArray .., ← HR0.out, HP.out]
      rintro e w2_ ⟨rfl, hw2⟩
      subst hw2
      go_wp2_with fail
      refine Calls.mono (YtebcdjpddoaajaaGreatDoor.strings_CutPrefix ⟨A.toArray⟩ _ _) ?_
      rw [show (ByteArray.mk #[114, 101, 109, 111, 118, 101, 32]).data.toList = remL from rfl, show (ByteArray.mk A.toArray).data.toList = A from List.toList_toArray .., ← HR.out, ← HH.out]
      rintro e w2_ ⟨rfl, hw2⟩
      subst hw2
      go_wp2_with fail
      refine Calls.mono (impl_ParseInt_c rest _ (by omega) HT1.out) ?_
      rintro e w3_ ⟨rfl, hb3⟩
      have bx3 := bx1.below hb3
      have B3 := bTrans B1 hb3
      clear hb3 bx1 B1
      have hrg := psI_rng rest
      have HV := Lib.hid (vPair_eq (psI rest))
      have HN := Lib.hid (show ∀ p g, EntOf s.data.toList p g → g = ⟨true, (psI rest).getD 0, zFac⟩ ∧ hp2 = true ∧ (psI rest).isSome = true from fun p g h => by obtain ⟨n, hg, h1, h2⟩ := HPA.out p g h; rw [h2, hg]; exact ⟨rfl, h1, rfl⟩)
      rw [HV.out]
      clear HV HPA
      generalize (psI rest).getD 0 = n at *
      generalize (psI rest).isSome = o at *
      have r0 := bx3.bx.cells 0 _ rfl; have r1 := bx3.bx.cells 1 _ rfl; have r2 := bx3.bx.cells 2 _ rfl; have r3 := bx3.bx.cells 3 _ rfl; have r4 := bx3.bx.cells 4 _ rfl; have r5 := bx3.bx.cells 5 _ rfl; have r6 := bx3.bx.cells 6 _ rfl; have r7 := bx3.bx.cells 7 _ rfl; have r8 := bx3.bx.cells 8 _ rfl; have r9 := bx3.bx.cells 9 _ rfl; have rf := bx3.bx.froz; have rz := bx3.lt
      cases hp2 <;> cases o
      · go_wp2_with fail
        refine bodyPost_ret (v := .tuple #[vEntryE (⟨true, n, zFac⟩), .bool false]) (by simp [*, vEntryE, zFac, results, Tryz.results79, go_sem]) rfl ⟨⟨true, n, zFac⟩, false, rfl, ?_, ?_, ?_⟩
        · exact zFac_ok _ (by omega) (by omega)
        · intro p g h; obtain ⟨_, h1, _⟩ := HN.out p g h; cases h1
        · exact b10 B3 (Nat.le_refl _) _ _ _ _ _ _ _ _ _ _
      · go_wp2_with fail
        refine bodyPost_ret (v := .tuple #[vEntryE (⟨true, n, zFac⟩), .bool false]) (by simp [*, vEntryE, zFac, results, Tryz.results79, go_sem]) rfl ⟨⟨true, n, zFac⟩, false, rfl, ?_, ?_, ?_⟩
        · exact zFac_ok _ (by omega) (by omega)
        · intro p g h; obtain ⟨_, h1, _⟩ := HN.out p g h; cases h1
        · exact b10 B3 (Nat.le_refl _) _ _ _ _ _ _ _ _ _ _
      · go_wp2_with fail
        refine bodyPost_ret (v := .tuple #[vEntryE (⟨true, n, zFac⟩), .bool false]) (by simp [*, vEntryE, zFac, results, Tryz.results79, go_sem]) rfl ⟨⟨true, n, zFac⟩, false, rfl, ?_, ?_, ?_⟩
        · exact zFac_ok _ (by omega) (by omega)
        · intro p g h; obtain ⟨_, _, h1⟩ := HN.out p g h; cases h1
        · exact b10 B3 (Nat.le_refl _) _ _ _ _ _ _ _ _ _ _
      · go_wp2_with fail
        refine bodyPost_ret (v := .tuple #[vEntryE (⟨true, n, zFac⟩), .bool true]) (by simp [*, vEntryE, zFac, results, Tryz.results79, go_sem]) rfl ⟨⟨true, n, zFac⟩, true, rfl, ?_, ?_, ?_⟩
        · exact zFac_ok _ (by omega) (by omega)
        · intro p g h; exact ⟨(HN.out p g h).1, rfl⟩
        · exact b10 B3 (Nat.le_refl _) _ _ _ _ _ _ _ _ _ _
end Go.Proofs.YtebcdjpddoaajaaGreatDoor

/- A journal of valid entries, read back: whole, cut off, and with one more line. Plain. -/
namespace Go.Proofs.YtebcdjpddoaajaaGreatDoor
open Go.RowKit
set_option linter.unusedVariables false
set_option linter.unusedSimpArgs false
set_option maxRecDepth 100000
theorem entSum_in (e : Entry) (p : Int) : inR (entSum e p) 0 65520 = true := by
  rw [inR_iff]
  exact entSum_bound e p
/-- the lines of a list -/
def jrnL : List Entry → Int → List UInt8
  | [], _ => []
  | e :: l, p => (entT e p).data.toList ++ jrnL l (entSum e p)
def sumL : List Entry → Int → Int
  | [], p => p
  | e :: l, p => sumL l (entSum e p)
theorem jrnL_app : ∀ (l m : List Entry) (p : Int), jrnL (l ++ m) p = jrnL l p ++ jrnL m (sumL l p)
  | [], m, p => rfl
  | e :: l, m, p => by
    show _ ++ jrnL (l ++ m) _ = (_ ++ jrnL l _) ++ _
    rw [jrnL_app l m, List.append_assoc]; rfl
theorem sumL_app : ∀ (l m : List Entry) (p : Int), sumL (l ++ m) p = sumL m (sumL l p)
  | [], m, p => rfl
  | e :: l, m, p => sumL_app l m _
theorem sumL_in : ∀ (l : List Entry) (p : Int), inR p 0 65520 = true → inR (sumL l p) 0 65520 = true
  | [], p, h => h
  | e :: l, p, _ => sumL_in l _ (entSum_in e p)
theorem ent_line {e : Entry} {p : Int} (h : vldEntry e = true) (hp : inR p 0 65520 = true) : ∃ ln, EntOf ln p e :=
  ⟨entL e ++ 32 :: 35 :: Lib.itoa (entSum e p), h, hp, by unfold entT; simp⟩
theorem no_pfx {r : List UInt8} {p q : Int} (h : ∀ x ∈ r, isB 10 x = false) (e : Entry) : ¬ PfxOf r p e := by
  intro hp
  have := h 10 (pfx_nl hp)
  revert this; decide
theorem bsize (s : ByteArray) : s.data.toList.length = s.size := by simp
theorem jrn_data : ∀ (l : List Entry) (p : Int) (s : ByteArray), (∀ e ∈ l, vldEntry e = true) → inR p 0 65520 = true → (jrn l p s).data.toList = s.data.toList ++ jrnL l p
  | [], p, s, _, _ => by simp [jrn, jrnL]
  | e :: l, p, s, h, hp => by
    rw [jrn, if_pos (by rw [h e (by simp), hp]; rfl), jrn_data l _ _ (fun g hg => h g (by simp [hg])) (entSum_in e p)]
    simp [jrnL, ByteArray.data_append]
theorem jrnOf_data {l : List Entry} (h : ∀ e ∈ l, vldEntry e = true) (hl : l.length ≤ 60) : (jrnOf l).data.toList = jrnL l 1 := by
  unfold jrnOf
  rw [if_pos hl, jrn_data l 1 _ h (by decide)]
  rfl
theorem rdj_take : ∀ (l : List Entry) (p : Int) (f k : Nat), (∀ e ∈ l, vldEntry e = true) → inR p 0 65520 = true → l.length ≤ f →
    ∃ m, m ≤ l.length ∧ rdj f ((jrnL l p).take k) p = (l.take m, (jrnL (l.take m) p).length, sumL (l.take m) p) ∧ (jrnL (l.take m) p).length ≤ k ∧ ((jrnL l p).length ≤ k → m = l.length)
  | [], p, f, k, _, _, _ => by
    refine ⟨0, Nat.le_refl _, ?_, by simp [jrnL], fun _ => rfl⟩
    rw [rdj_none (no_pfx (q := 0) (by simp [jrnL]))]
    simp [jrnL, sumL]
  | e :: l, p, f, k, h, hp, hf => by
    obtain ⟨f, rfl⟩ : ∃ g, f = g + 1 := ⟨f - 1, by simp at hf; omega⟩
    obtain ⟨ln, hln⟩ := ent_line (h e (by simp)) hp
    have hsz := ent_size hln
    have hdl := bsize (entT e p)
    by_cases hk : (entT e p).size ≤ k
    · have ht : (jrnL (e :: l) p).take k = (entT e p).data.toList ++ (jrnL l (entSum e p)).take (k - (entT e p).size) := by
        show ((entT e p).data.toList ++ jrnL l (entSum e p)).take k = _
        rw [List.take_append, List.take_of_length_le (by omega), hdl]
      obtain ⟨m, hm, hr, hl, hw⟩ := rdj_take l (entSum e p) f (k - (entT e p).size) (fun g hg => h g (by simp [hg])) (entSum_in e p) (by simp at hf; omega)
      refine ⟨m + 1, by simp; omega, ?_, ?_, ?_⟩
      · rw [rdj_some (e := e) ⟨h e (by simp), hp, _, ht⟩, ht, List.drop_append, List.drop_of_length_le (by omega), hdl, Nat.sub_self, List.drop_zero, List.nil_append, hr]
        simp only [List.take_succ_cons, jrnL, sumL, List.length_append, hdl]
      · simp only [List.take_succ_cons, jrnL, List.length_append, hdl]; omega
      · intro hle
        simp only [jrnL, List.length_append, hdl] at hle
        rw [hw (by omega)]; rfl
    · refine ⟨0, Nat.zero_le _, ?_, by simp [jrnL], ?_⟩
      · have ht : (jrnL (e :: l) p).take k = ln.take k := by
          show ((entT e p).data.toList ++ jrnL l (entSum e p)).take k = _
          rw [hln.2.2, List.take_append, List.take_append]
          have e1 : k - ln.length = 0 := by omega
          have e2 : k - (ln ++ [10]).length = 0 := by simp; omega
          rw [e1, e2]; simp
        rw [ht, rdj_none (no_pfx (q := 0) fun x hx => ent_no10 hln x (List.mem_of_mem_take hx))]
        simp [jrnL, sumL]
      · intro hle
        exfalso
        simp only [jrnL, List.length_append, hdl] at hle
        omega
theorem jrnL_take : ∀ (l : List Entry) (p : Int) (m : Nat), (jrnL l p).take (jrnL (l.take m) p).length = jrnL (l.take m) p
  | l, p, m => by
    have h : l = l.take m ++ l.drop m := (List.take_append_drop m l).symm
    have e := jrnL_app (l.take m) (l.drop m) p
    rw [← h] at e
    rw [e, List.take_append, List.take_of_length_le (Nat.le_refl _), Nat.sub_self, List.take_zero, List.append_nil]
/-- the whole journal is read -/
theorem rdj_all {l : List Entry} (h : ∀ e ∈ l, vldEntry e = true) (hl : l.length ≤ 60) : rdj 60 (jrnL l 1) 1 = (l, (jrnL l 1).length, sumL l 1) := by
  obtain ⟨m, hm, hr, _, hw⟩ := rdj_take l 1 60 (jrnL l 1).length h (by decide) hl
  rw [List.take_of_length_le (Nat.le_refl _)] at hr
  rw [hw (Nat.le_refl _), List.take_of_length_le (Nat.le_refl _)] at hr
  exact hr
theorem jrnL_ne {l : List Entry} {p : Int} (h : l ≠ []) (hv : ∀ e ∈ l, vldEntry e = true) (hp : inR p 0 65520 = true) : 0 < (jrnL l p).length := by
  cases l with
  | nil => exact absurd rfl h
  | cons e l =>
    obtain ⟨ln, hln⟩ := ent_line (hv e (by simp)) hp
    have := ent_size hln
    have := bsize (entT e p)
    simp only [jrnL, List.length_append]
    omega
end Go.Proofs.YtebcdjpddoaajaaGreatDoor
