/- Texts of this proof, one behind the other: ShelfE, TabE, PrsF, FmtA. -/
import Derived.Shelf.Strconv.AtoiAll
import Derived.Shelf.Strconv.ErrVarAll
import Derived.Test.YtebcdjpddoaajaaDoorProg
import Derived.BigQuiet
import Derived.Deep.Quiet
import Derived.Test.YtebcdjpddoaajaaDoorGs2
import Derived.Test.YtebcdjpddoaajaaDoorGs10
import Derived.Test.YtebcdjpddoaajaaDoorGs11
/- strconv.Atoi: the shelf's contracts, laid by the kit's tools. -/
namespace Go.Proofs
open Go.Shelf
def YtebcdjpddoaajaaDoor.laysC172_ren : Go.Shelf.Ren := ⟨fun | 172 => 93 | 244 => 113 | 245 => 114 | 247 => 128 | 279 => 129 | 280 => 130 | 281 => 131 | 282 => 132 | 287 => 138 | 316 => 139 | 171 => 94 | 205 => 140 | 321 => 147 | 322 => 148 | 243 => 115 | 246 => 133 | 283 => 141 | 284 => 142 | 285 => 143 | 286 => 144 | 129 => 150 | 317 => 149 | 318 => 151 | 319 => 152 | 320 => 153 | 337 => 157 | 338 => 158 | n => n, fun | 9 => 9 | 3 => 3 | 75 => 123 | 76 => 124 | 4 => 4 | 5 => 5 | 167 => 146 | 37 => 22 | 0 => 0 | 85 => 147 | 2 => 2 | 168 => 149 | 53 => 153 | 175 => 154 | 46 => 127 | 210 => 158 | 127 => 167 | 145 => 170 | 143 => 168 | 21 => 21 | 171 => 160 | 173 => 163 | 212 => 172 | 51 => 173 | 20 => 20 | 213 => 174 | 232 => 179 | 233 => 180 | 80 => 181 | n => n, fun | 15 => 0 | 16 => 1 | 17 => 3 | 18 => 4 | 19 => 5 | n => n⟩
theorem YtebcdjpddoaajaaDoor.laysC172 : Go.Proofs.LaysC.n172 Tryd.prog YtebcdjpddoaajaaDoor.laysC172_ren := {
  mixed := by kernel_rfl
  f129 := Tryd.func150.trans (congrArg some (by kernel_rfl))
  f171 := Tryd.func94.trans (congrArg some (by kernel_rfl))
  f172 := Tryd.func93.trans (congrArg some (by kernel_rfl))
  f205 := Tryd.func140.trans (congrArg some (by kernel_rfl))
  f243 := Tryd.func115.trans (congrArg some (by kernel_rfl))
  f244 := Tryd.func113.trans (congrArg some (by kernel_rfl))
  f245 := Tryd.func114.trans (congrArg some (by kernel_rfl))
  f246 := Tryd.func133.trans (congrArg some (by kernel_rfl))
  f247 := Tryd.func128.trans (congrArg some (by kernel_rfl))
  f279 := Tryd.func129.trans (congrArg some (by kernel_rfl))
  f280 := Tryd.func130.trans (congrArg some (by kernel_rfl))
  f281 := Tryd.func131.trans (congrArg some (by kernel_rfl))
  f282 := Tryd.func132.trans (congrArg some (by kernel_rfl))
  f283 := Tryd.func141.trans (congrArg some (by kernel_rfl))
  f284 := Tryd.func142.trans (congrArg some (by kernel_rfl))
  f285 := Tryd.func143.trans (congrArg some (by kernel_rfl))
  f286 := Tryd.func144.trans (congrArg some (by kernel_rfl))
  f287 := Tryd.func138.trans (congrArg some (by kernel_rfl))
  f316 := Tryd.func139.trans (congrArg some (by kernel_rfl))
  f317 := Tryd.func149.trans (congrArg some (by kernel_rfl))
  f318 := Tryd.func151.trans (congrArg some (by kernel_rfl))
  f319 := Tryd.func152.trans (congrArg some (by kernel_rfl))
  f320 := Tryd.func153.trans (congrArg some (by kernel_rfl))
  f321 := Tryd.func147.trans (congrArg some (by kernel_rfl))
  f322 := Tryd.func148.trans (congrArg some (by kernel_rfl))
  f337 := Tryd.func157.trans (congrArg some (by kernel_rfl))
  f338 := Tryd.func158.trans (congrArg some (by kernel_rfl))
  t0 := Tryd.underlying0
  a0 := Tryd.isAgg0
  z0 := Tryd.sizeOf0
  v0 := Tryd.zeroValue0
  t2 := Tryd.underlying2
  a2 := Tryd.isAgg2
  z2 := Tryd.sizeOf2
  v2 := Tryd.zeroValue2
  t3 := Tryd.underlying3
  a3 := Tryd.isAgg3
  z3 := Tryd.sizeOf3
  v3 := Tryd.zeroValue3
  t4 := Tryd.underlying4
  a4 := Tryd.isAgg4
  z4 := Tryd.sizeOf4
  v4 := Tryd.zeroValue4
  t5 := Tryd.underlying5
  a5 := Tryd.isAgg5
  z5 := Tryd.sizeOf5
  v5 := Tryd.zeroValue5
  t9 := Tryd.underlying9
  a9 := Tryd.isAgg9
  z9 := Tryd.sizeOf9
  v9 := Tryd.zeroValue9
  t20 := Tryd.underlying20
  a20 := Tryd.isAgg20
  z20 := Tryd.sizeOf20
  v20 := Tryd.zeroValue20
  t21 := Tryd.underlying21
  a21 := Tryd.isAgg21
  z21 := Tryd.sizeOf21
  v21 := Tryd.zeroValue21
  t37 := Tryd.underlying22
  a37 := Tryd.isAgg22
  z37 := Tryd.sizeOf22
  v37 := Tryd.zeroValue22
  t46 := Tryd.underlying127
  a46 := Tryd.isAgg127
  z46 := Tryd.sizeOf127
  v46 := Tryd.zeroValue127
  t51 := Tryd.underlying173
  a51 := Tryd.isAgg173
  z51 := Tryd.sizeOf173
  v51 := Tryd.zeroValue173
  t53 := Tryd.underlying153
  a53 := Tryd.isAgg153
  z53 := Tryd.sizeOf153
  v53 := Tryd.zeroValue153
  t75 := Tryd.underlying123
  a75 := Tryd.isAgg123
  z75 := Tryd.sizeOf123
  v75 := Tryd.zeroValue123
  t76 := Tryd.underlying124
  a76 := Tryd.isAgg124
  z76 := Tryd.sizeOf124
  v76 := Tryd.zeroValue124
  t85 := Tryd.underlying147
  a85 := Tryd.isAgg147
  z85 := Tryd.sizeOf147
  v85 := Tryd.zeroValue147
  t127 := Tryd.underlying167
  a127 := Tryd.isAgg167
  z127 := Tryd.sizeOf167
  v127 := Tryd.zeroValue167
  t143 := Tryd.underlying168
  a143 := Tryd.isAgg168
  z143 := Tryd.sizeOf168
  v143 := Tryd.zeroValue168
  t145 := Tryd.underlying170
  a145 := Tryd.isAgg170
  z145 := Tryd.sizeOf170
  v145 := Tryd.zeroValue170
  t167 := Tryd.underlying146
  a167 := Tryd.isAgg146
  z167 := Tryd.sizeOf146
  v167 := Tryd.zeroValue146
  t168 := Tryd.underlying149
  a168 := Tryd.isAgg149
  z168 := Tryd.sizeOf149
  v168 := Tryd.zeroValue149
  t171 := Tryd.underlying160
  a171 := Tryd.isAgg160
  z171 := Tryd.sizeOf160
  v171 := Tryd.zeroValue160
  t173 := Tryd.underlying163
  a173 := Tryd.isAgg163
  z173 := Tryd.sizeOf163
  v173 := Tryd.zeroValue163
  t175 := Tryd.underlying154
  a175 := Tryd.isAgg154
  z175 := Tryd.sizeOf154
  v175 := Tryd.zeroValue154
  t210 := Tryd.underlying158
  a210 := Tryd.isAgg158
  z210 := Tryd.sizeOf158
  v210 := Tryd.zeroValue158
  t212 := Tryd.underlying172
  a212 := Tryd.isAgg172
  z212 := Tryd.sizeOf172
  v212 := Tryd.zeroValue172
  t213 := Tryd.underlying174
  a213 := Tryd.isAgg174
  z213 := Tryd.sizeOf174
  t232 := Tryd.underlying179
  a232 := Tryd.isAgg179
  z232 := Tryd.sizeOf179
  v232 := Tryd.zeroValue179
  t233 := Tryd.underlying180
  a233 := Tryd.isAgg180
  z233 := Tryd.sizeOf180
  v233 := Tryd.zeroValue180
  g15 := by kernel_rfl
  g16 := by kernel_rfl
  g17 := by kernel_rfl
  g18 := by kernel_rfl
  g19 := by kernel_rfl
  t80 := Tryd.underlying181
  a80 := Tryd.isAgg181
  z80 := Tryd.sizeOf181
  v80 := Tryd.zeroValue181
  i0 := by kernel_rfl
  i2 := by kernel_rfl
  i3 := by kernel_rfl
  i4 := by kernel_rfl
  i5 := by kernel_rfl
  i9 := by kernel_rfl
  i20 := by kernel_rfl
  i21 := by kernel_rfl
  i37 := by kernel_rfl
  i46 := by kernel_rfl
  i51 := by kernel_rfl
  i53 := by kernel_rfl
  i75 := by kernel_rfl
  i76 := by kernel_rfl
  i80 := by kernel_rfl
  i85 := by kernel_rfl
  i127 := by kernel_rfl
  i143 := by kernel_rfl
  i145 := by kernel_rfl
  i167 := by kernel_rfl
  i168 := by kernel_rfl
  i171 := by kernel_rfl
  i173 := by kernel_rfl
  i175 := by kernel_rfl
  i210 := by kernel_rfl
  i212 := by kernel_rfl
  i232 := by kernel_rfl
  i233 := by kernel_rfl
  m15 := by kernel_rfl
  m16 := by kernel_rfl
  m17 := by kernel_rfl
  m18 := by kernel_rfl
  m19 := by kernel_rfl
  c0 := by kernel_rfl
  c2 := by kernel_rfl
  c3 := by kernel_rfl
  c4 := by kernel_rfl
  c5 := by kernel_rfl
  c9 := by kernel_rfl
  c20 := by kernel_rfl
  c21 := by kernel_rfl
  c37 := by kernel_rfl
  c46 := by kernel_rfl
  c51 := by kernel_rfl
  c53 := by kernel_rfl
  c75 := by kernel_rfl
  c76 := by kernel_rfl
  c80 := by kernel_rfl
  c85 := by kernel_rfl
  c127 := by kernel_rfl
  c143 := by kernel_rfl
  c145 := by kernel_rfl
  c167 := by kernel_rfl
  c168 := by kernel_rfl
  c171 := by kernel_rfl
  c173 := by kernel_rfl
  c175 := by kernel_rfl
  c210 := by kernel_rfl
  c212 := by kernel_rfl
  c213 := by kernel_rfl
  c232 := by kernel_rfl
  c233 := by kernel_rfl }
open Go.RowKit in
theorem YtebcdjpddoaajaaDoor.strconv_Atoi_ok (s : ByteArray) (hmax : s.size ≤ 9223372036854775806) (v : Int) (h : Lib.atoiAll s.data.toList = .ok v) (w : World) :
    Calls Tryd.prog 93 #[.string s] w fun e w' => e = .returned (.tuple #[.int .i64 v, .nilIface]) ∧ (w' = w ∨ ∃ t, w' = Lib.bytesWorld w 5 t) := Any.strconv_Atoi_ok YtebcdjpddoaajaaDoor.laysC172 s hmax v h w
open Go.RowKit in
theorem YtebcdjpddoaajaaDoor.strconv_Atoi_syntax (s : ByteArray) (hlim : s.size ≤ 281474976710656) (h : Lib.atoiAll s.data.toList = Lib.atoiAll []) (ev : Value) (w : World) (hv : w.cell? ⟨0, 0, none⟩ = some ev) (hev : ev = .nilIface ∨ ∃ te pe, ev = .iface te pe) :
    Calls Tryd.prog 93 #[.string s] w fun e w' => ∃ N, e = .returned (.tuple #[.int .i64 (0), .iface 149 (.pointer (some ⟨N, 0, none⟩))]) ∧ w.heap.size ≤ N ∧ w'.heap[N]? = some (.cells #[.string ⟨#[65, 116, 111, 105]⟩, .string s, ev] 158 (0, 0)) ∧ Below w.heap.size w w' := Any.strconv_Atoi_syntax YtebcdjpddoaajaaDoor.laysC172 s hlim h ev w hv hev
open Go.RowKit in
theorem YtebcdjpddoaajaaDoor.strconv_Atoi_range (s : ByteArray) (hlim : s.size ≤ 281474976710656) (h : Lib.atoiAll s.data.toList = .range) (ev : Value) (w : World) (hv : w.cell? ⟨1, 0, none⟩ = some ev) (hev : ev = .nilIface ∨ ∃ te pe, ev = .iface te pe) :
    Calls Tryd.prog 93 #[.string s] w fun e w' => ∃ N, e = .returned (.tuple #[.int .i64 (Lib.atoiSat s.data.toList), .iface 149 (.pointer (some ⟨N, 0, none⟩))]) ∧ w.heap.size ≤ N ∧ w'.heap[N]? = some (.cells #[.string ⟨#[65, 116, 111, 105]⟩, .string s, ev] 158 (0, 0)) ∧ Below w.heap.size w w' := Any.strconv_Atoi_range YtebcdjpddoaajaaDoor.laysC172 s hlim h ev w hv hev
end Go.Proofs

/- The table and the two errors that strconv reads: out of the row's condition, and behind calls that only make memory. ParseInt of the program. -/
namespace Go.Proofs.YtebcdjpddoaajaaDoor
open Go.ChangeShapes Go.WideShapes Go.ChangeAt Go.RowKit
set_option linter.unusedVariables false
set_option linter.unusedSimpArgs false
set_option maxRecDepth 100000
theorem gErrS : Tryd.prog.globalNamed "strconv.ErrSyntax" = some 0 := by kernel_rfl
theorem gErrR : Tryd.prog.globalNamed "strconv.ErrRange" = some 1 := by kernel_rfl
theorem gErrST : (Tryd.prog.globals[0]?).map (·.type) = some 123 := by kernel_rfl
theorem gErrRT : (Tryd.prog.globals[1]?).map (·.type) = some 123 := by kernel_rfl
theorem errStar : "*" ++ "errors.errorString" = "*errors.errorString" := by decide
theorem errRow (u : TypeId) (h : Tryd.prog.typeName? 3 u = some "*errors.errorString") : u = 168 :=
  typeName_ptr_named (nm := "errors.errorString") (by rw [errStar]; kernel_rfl) (by kernel_rfl) (by decide) u (by rw [errStar]; exact h)
theorem errU : ∃ ms, Tryd.prog.underlying 123 = some (.interface ms) := by
  have h : (match Tryd.prog.underlying 123 with | some (.interface _) => true | _ => false) = true := by kernel_rfl
  revert h
  cases Tryd.prog.underlying 123 with
  | none => intro h; cases h
  | some t => cases t <;> intro h <;> first | exact ⟨_, rfl⟩ | cases h
theorem errP : Tryd.prog.underlying 168 = some (.pointer 170) := by kernel_rfl
theorem errE : Tryd.prog.underlying 170 = some (.struct #[⟨"s", 9, 0, false, "", "errors", 0⟩]) := by kernel_rfl
theorem errC : Tryd.prog.cellsOf 170 = 1 := by kernel_rfl
theorem strC : Tryd.prog.cellsOf 9 = 1 := by kernel_rfl
theorem strU : Tryd.prog.underlying 9 = some .string := by kernel_rfl
/-- the table, and some error in each of the two variables -/
def TabE (w : World) : Prop := Tab w ∧ (∃ tp p, w.cell? ⟨0, 0, none⟩ = some (.iface tp p)) ∧ ∃ tp p, w.cell? ⟨1, 0, none⟩ = some (.iface tp p)
theorem TabE.tab {w : World} (h : TabE w) : Tab w := h.1
theorem TabE.below {w w' : World} (h : TabE w) (hb : Below w.heap.size w w') : TabE w' := by
  obtain ⟨h1, ⟨tp, p, h2⟩, tq, q, h3⟩ := h
  exact ⟨h1.below hb, ⟨tp, p, bCell hb h2⟩, tq, q, bCell hb h3⟩
/-- the list of the rows -/
def laidL5 : List (String × DataW Unit) := [("math/bits.deBruijn32tab", Rows.laid_math_bits_deBruijn32tab), ("math/bits.deBruijn64tab", Rows.laid_math_bits_deBruijn64tab), ("internal/strconv.uint64pow10", Rows.laid_internal_strconv_uint64pow10), ("strconv.ErrRange", Rows.laid_strconv_ErrRange), ("strconv.ErrSyntax", Rows.laid_strconv_ErrSyntax)]
theorem tabE_of_laid {W : World} (h : laidMetH Tryd.prog laidL5 W) : TabE W := by
  rw [MakeChecks.laidMetH_plain _ _ _ (by kernel_rfl)] at h
  have h2 := h.tail.tail
  rw [tabData_eq] at h2
  have h3 := h2.tail
  have h4 := h3.tail
  obtain ⟨ms, hi⟩ := errU
  obtain ⟨a, s, hv, _⟩ := laid_sentinel h3 gErrR gErrRT hi errRow errP errE rfl rfl strU errC strC
  obtain ⟨b, t, hv2, _⟩ := laid_sentinel h4 gErrS gErrST hi errRow errP errE rfl rfl strU errC strC
  exact ⟨Lib.tabIs_of_head gTab gTabType Tryd.underlying172 Tryd.underlying153 cTab1 cTab h2, ⟨_, _, by rw [World.var?_cell gErrS hv2 0]; rfl⟩, _, _, by rw [World.var?_cell gErrR hv 0]; rfl⟩
theorem itoaB_toL (v : Int) : (itoaB v).toList = Lib.itoa v := by rw [ByteArray.toList_eq]; simp [itoaB]
theorem bytesW {w w' : World} (h : w' = w ∨ ∃ t, w' = Lib.bytesWorld w 5 t) : Below w.heap.size w w' := by
  rcases h with rfl | ⟨t, rfl⟩
  · exact Below.refl _ _
  · exact Lib.bytesWorld_below _ _ _
theorem impl_ParseInt_c (s : ByteArray) (w : World) (hs : s.size ≤ 4194304) (hT : TabE w) : Calls Tryd.prog 50 #[.string s] w fun e w' => e = .returned (vPair (psI s)) ∧ Below w.heap.size w w' := by
  have HT := Lib.hid hT
  clear hT
  cases ha : Lib.atoiAll s.data.toList
  case ok v =>
    obtain ⟨v0, v1⟩ := Lib.atoiAll_bounds ha
    have HA := Lib.hid ha
    clear ha
    cases he : (Lib.itoa v == s.toList) with
    | true =>
      have HS := Lib.hid (show itoaB v = s from toL_inj ((itoaB_toL v).trans (eq_of_beq he)))
      go_enter Tryd.func50, Tryd.ntmps50
      go_wp2_with (first | (go_at_call 93; refine (YtebcdjpddoaajaaDoor.strconv_Atoi_ok s (by omega) v HA.out _).mono ?_; rintro e w1 ⟨rfl, hw1⟩; have hb1 := bytesW hw1; clear hw1) | (go_at_call 94; refine (YtebcdjpddoaajaaDoor.strconv_Itoa v v0 v1 _ (HT.out.tab.below hb1)).mono ?_; rintro e w2 ⟨rfl, k, os, rfl⟩))
      refine bodyPost_ret (v := .tuple #[.int .i64 v, .bool true]) (by simp [*, results, Tryd.results50, go_sem]) rfl ⟨?_, hb1.trans (Lib.below_grow _ _ hb1.size _ _)⟩
      rw [psI_some v0 v1 HS.out]; rfl
    | false =>
      have HS := Lib.hid (show ¬ itoaB v = s from fun e => by rw [← e, itoaB_toL] at he; simp at he)
      go_enter Tryd.func50, Tryd.ntmps50
      go_wp2_with (first | (go_at_call 93; refine (YtebcdjpddoaajaaDoor.strconv_Atoi_ok s (by omega) v HA.out _).mono ?_; rintro e w1 ⟨rfl, hw1⟩; have hb1 := bytesW hw1; clear hw1) | (go_at_call 94; refine (YtebcdjpddoaajaaDoor.strconv_Itoa v v0 v1 _ (HT.out.tab.below hb1)).mono ?_; rintro e w2 ⟨rfl, k, os, rfl⟩))
      refine bodyPost_ret (v := .tuple #[.int .i64 0, .bool false]) (by simp [*, results, Tryd.results50, go_sem]) rfl ⟨?_, hb1.trans (Lib.below_grow _ _ hb1.size _ _)⟩
      rw [psI_none]; rfl
      intro n h1 h2 h3
      have h4 := atoi_itoa h1 h2
      have h5 : s.data.toList = Lib.itoa n := by rw [← h3]; simp [itoaB]
      rw [← h5, HA.out] at h4
      injection h4 with h4
      rw [← h4] at h3
      exact HS.out h3
  case range =>
    have HA := Lib.hid ha
    clear ha
    obtain ⟨tp, p, hcell⟩ := HT.out.2.2
    go_enter Tryd.func50, Tryd.ntmps50
    go_wp2_with (go_at_call 93; refine (YtebcdjpddoaajaaDoor.strconv_Atoi_range s (by omega) HA.out _ _ hcell (.inr ⟨tp, p, rfl⟩)).mono ?_; rintro e w1 ⟨N, rfl, hN, hC, hb1⟩; clear hcell)
    refine bodyPost_ret (v := .tuple #[.int .i64 0, .bool false]) (by simp [*, results, Tryd.results50, go_sem]) rfl ⟨?_, hb1⟩
    rw [psI_none]; rfl
    intro n h1 h2 h3
    have h4 := atoi_itoa h1 h2
    have h5 : s.data.toList = Lib.itoa n := by rw [← h3]; simp [itoaB]
    rw [← h5, HA.out] at h4
    cases h4
  focus
    have HA := Lib.hid ha
    clear ha
    obtain ⟨tp, p, hcell⟩ := HT.out.2.1
    go_enter Tryd.func50, Tryd.ntmps50
    go_wp2_with (go_at_call 93; refine (YtebcdjpddoaajaaDoor.strconv_Atoi_syntax s (by omega) HA.out _ _ hcell (.inr ⟨tp, p, rfl⟩)).mono ?_; rintro e w1 ⟨N, rfl, hN, hC, hb1⟩; clear hcell)
    refine bodyPost_ret (v := .tuple #[.int .i64 0, .bool false]) (by simp [*, results, Tryd.results50, go_sem]) rfl ⟨?_, hb1⟩
    rw [psI_none]; rfl
    intro n h1 h2 h3
    have h4 := atoi_itoa h1 h2
    have h5 : s.data.toList = Lib.itoa n := by rw [← h3]; simp [itoaB]
    rw [← h5, HA.out] at h4
    cases h4
end Go.Proofs.YtebcdjpddoaajaaDoor

/- The pose and the factor whose text is given; what the words of such a text are. Plain. -/
namespace Go.Proofs.YtebcdjpddoaajaaDoor
open Go.RowKit
set_option linter.unusedVariables false
set_option linter.unusedSimpArgs false
set_option maxRecDepth 100000
/-- the one that fits, if there is one -/
noncomputable def the {α : Type} (P : α → Prop) : Option α :=
  open Classical in if h : ∃ a, P a then some (Classical.choose h) else none
theorem the_some {α : Type} {P : α → Prop} {a : α} (hu : ∀ b, P b → b = a) (h : P a) : the P = some a := by
  unfold the
  rw [dif_pos ⟨a, h⟩, hu _ (Classical.choose_spec (p := P) ⟨a, h⟩)]
theorem the_none {α : Type} {P : α → Prop} (h : ∀ a, ¬ P a) : the P = none := by
  unfold the
  rw [dif_neg]
  rintro ⟨a, ha⟩; exact h a ha
theorem the_text {α : Type} {P : α → Prop} {a : α} (h : the P = some a) : P a := by
  unfold the at h
  split at h
  case isTrue hx =>
    have hc := Classical.choose_spec hx
    injection h with h
    rw [h] at hc; exact hc
  case isFalse => cases h
/-! ### signs -/
/-- a sign of a word -/
def wd (b : UInt8) : Prop := b.toNat = 45 ∨ (48 ≤ b.toNat ∧ b.toNat ≤ 57) ∨ (97 ≤ b.toNat ∧ b.toNat ≤ 122)
theorem wd_no {c b : UInt8} (hc : c = 44 ∨ c = 32 ∨ c = 59 ∨ c = 10 ∨ c = 35) (h : wd b) : isB c b = false := by
  unfold isB
  unfold wd at h
  simp only [beq_eq_false_iff_ne]
  rintro rfl
  rcases hc with rfl | rfl | rfl | rfl | rfl <;> revert h <;> decide
theorem itoa_wd (n : Int) : ∀ b ∈ Lib.itoa n, wd b := by
  intro b hb
  rcases itoa_signs n b hb with h | h
  · exact .inl h
  · exact .inr (.inl h)
theorem turn_wd {t : Int} (h0 : 0 ≤ t) (h1 : t ≤ 3) : wd (turnB t) := by
  obtain rfl | rfl | rfl | rfl : t = 0 ∨ t = 1 ∨ t = 2 ∨ t = 3 := by omega
  all_goals (unfold wd; decide)
theorem turnB_inj {t u : Int} (h0 : 0 ≤ t) (h1 : t ≤ 3) (g0 : 0 ≤ u) (g1 : u ≤ 3) (h : turnB t = turnB u) : t = u := by
  obtain rfl | rfl | rfl | rfl : t = 0 ∨ t = 1 ∨ t = 2 ∨ t = 3 := by omega
  all_goals (obtain rfl | rfl | rfl | rfl : u = 0 ∨ u = 1 ∨ u = 2 ∨ u = 3 := by omega)
  all_goals (first | rfl | (revert h; decide))
theorem kind_wd (k : Int) : ∀ b ∈ kindL k, wd b := by
  unfold kindL wd
  split
  · decide
  split
  · decide
  split
  · decide
  · decide
theorem kindL_inj {k j : Int} (hk : k = 1 ∨ k = 2 ∨ k = 3 ∨ k = 4) (hj : j = 1 ∨ j = 2 ∨ j = 3 ∨ j = 4) (h : kindL k = kindL j) : k = j := by
  rcases hk with rfl | rfl | rfl | rfl <;> rcases hj with rfl | rfl | rfl | rfl
  all_goals (first | rfl | (revert h; decide))
theorem namL_wd : ∀ (l : List UInt8) (b : Bool), namL l b = true → ∀ x ∈ l, wd x
  | [], _, _, x, hx => by simp at hx
  | a :: l, b, h, x, hx => by
    rw [namL, Bool.and_eq_true] at h
    rcases List.mem_cons.1 hx with rfl | hx
    · have h1 := h.1
      unfold okByte at h1
      simp only [Bool.or_eq_true, Bool.and_eq_true, decide_eq_true_eq] at h1
      unfold wd
      omega
    · exact namL_wd l false h.2 x hx
theorem nm_wd {s : ByteArray} {c : Int} (h : nmWith s c = true) : ∀ x ∈ s.data.toList, wd x := by
  unfold nmWith isNm at h
  simp only [Bool.and_eq_true] at h
  exact namL_wd _ _ h.1.2
theorem no_of {c : UInt8} (hc : c = 44 ∨ c = 32 ∨ c = 59 ∨ c = 10 ∨ c = 35) {l : List UInt8} (h : ∀ b ∈ l, wd b) : ∀ b ∈ l, isB c b = false := fun b hb => wd_no hc (h b hb)
theorem isB_self (c : UInt8) : isB c c = true := by simp [isB]
/-! ### the pose -/
def PoseOf (s : ByteArray) (p : Pose) : Prop := vldPose p.turn p.x p.y = true ∧ poseL p.turn p.x p.y = s.data.toList
theorem pose_rng {t x y : Int} (h : vldPose t x y = true) : (0 ≤ t ∧ t ≤ 3) ∧ (-1000000 ≤ x ∧ x ≤ 1000000) ∧ (-1000000 ≤ y ∧ y ≤ 1000000) := by
  unfold vldPose at h
  simp only [Bool.and_eq_true, inR_iff] at h
  exact ⟨h.1, h.2.1, h.2.2⟩
theorem pose_split {t x y : Int} (h : vldPose t x y = true) : splitL (isB 44) [] (poseL t x y) = [Lib.itoa x, Lib.itoa y, [turnB t]] := by
  obtain ⟨⟨t0, t1⟩, _, _⟩ := pose_rng h
  unfold poseL
  rw [splitL_word (isB_self 44) _ _ _ (no_of (by simp) (itoa_wd x)),
    show Lib.itoa y ++ [44, turnB t] = Lib.itoa y ++ 44 :: [turnB t] from rfl,
    splitL_word (isB_self 44) _ _ _ (no_of (by simp) (itoa_wd y)),
    splitL_last _ _ (by intro b hb; rw [List.mem_singleton.1 hb]; exact wd_no (by simp) (turn_wd t0 t1))]
  rfl
theorem pose_words {s : ByteArray} {p : Pose} {L : List ByteArray} (h : PoseOf s p) (hL : L.map (fun x => x.data.toList) = splitL (isB 44) [] s.data.toList) :
    ∃ a b c, L = [a, b, c] ∧ psI a = some p.x ∧ psI b = some p.y ∧ c.data.toList = [turnB p.turn] := by
  rw [← h.2, pose_split h.1] at hL
  obtain ⟨_, hx, hy⟩ := pose_rng h.1
  rcases L with _ | ⟨a, _ | ⟨b, _ | ⟨c, _ | ⟨d, L⟩⟩⟩⟩
  all_goals simp only [List.map_cons, List.map_nil, List.cons.injEq, reduceCtorEq, and_false, and_true, List.nil_eq, List.cons_ne_nil] at hL
  · exact ⟨a, b, c, rfl, psI_some (by omega) (by omega) (bext (by rw [hL.1]; simp [itoaB])), psI_some (by omega) (by omega) (bext (by rw [hL.2.1]; simp [itoaB])), hL.2.2⟩
theorem words_of (s : ByteArray) (c : UInt8) : ∃ L : List ByteArray, L.map (fun x => x.data.toList) = splitL (isB c) [] s.data.toList :=
  ⟨(splitL (isB c) [] s.data.toList).map fun l => ⟨l.toArray⟩, by simp [Function.comp_def]⟩
theorem pose_one {s : ByteArray} {p q : Pose} (h : PoseOf s p) (g : PoseOf s q) : p = q := by
  obtain ⟨L, hL⟩ := words_of s 44
  obtain ⟨a, b, c, rfl, hx, hy, ht⟩ := pose_words h hL
  obtain ⟨a', b', c', e, hx', hy', ht'⟩ := pose_words g hL
  simp only [List.cons.injEq, and_true] at e
  obtain ⟨rfl, rfl, rfl⟩ := e
  rw [hx] at hx'; rw [hy] at hy'; rw [ht] at ht'
  obtain ⟨t, x, y⟩ := p
  obtain ⟨t', x', y'⟩ := q
  simp only [Option.some.injEq, List.cons.injEq, and_true] at hx' hy' ht'
  have r := pose_rng h.1
  have r' := pose_rng g.1
  simp only at r r' ht'
  have := turnB_inj r.1.1 r.1.2 r'.1.1 r'.1.2 ht'
  rw [hx', hy', this]
noncomputable def psPose (s : ByteArray) : Option Pose := the (PoseOf s)
theorem psPose_some {s : ByteArray} {p : Pose} (h : PoseOf s p) : psPose s = some p := the_some (fun q hq => pose_one hq h) h
theorem psPose_none {s : ByteArray} (h : ∀ p, ¬ PoseOf s p) : psPose s = none := the_none h
theorem psPose_text {s : ByteArray} {p : Pose} (h : psPose s = some p) : PoseOf s p := the_text h
theorem poseOf_iff {s : ByteArray} {t x y : Int} : PoseOf s ⟨t, x, y⟩ ↔ vldPose t x y = true ∧ fmtPose t x y = s := by
  constructor
  · intro h
    refine ⟨h.1, ?_⟩
    unfold fmtPose
    rw [if_pos h.1]
    exact bext (by rw [← h.2])
  · intro h
    refine ⟨h.1, ?_⟩
    have := h.2
    unfold fmtPose at this
    rw [if_pos h.1] at this
    rw [← this]
/-! ### the factor -/
def FacOf (s : ByteArray) (f : Factor) : Prop := vldFactor f = true ∧ facL f = s.data.toList
theorem pose_no32 {t x y : Int} (h : vldPose t x y = true) {c : UInt8} (hc : c = 32 ∨ c = 59 ∨ c = 10 ∨ c = 35) : ∀ b ∈ poseL t x y, isB c b = false := by
  obtain ⟨⟨t0, t1⟩, _, _⟩ := pose_rng h
  have hc' : c = 44 ∨ c = 32 ∨ c = 59 ∨ c = 10 ∨ c = 35 := .inr hc
  have h44 : isB c 44 = false := by rcases hc with rfl | rfl | rfl | rfl <;> decide
  intro b hb
  unfold poseL at hb
  simp only [List.mem_append, List.mem_cons, List.not_mem_nil, or_false] at hb
  rcases hb with hb | rfl | hb | rfl | rfl
  · exact wd_no hc' (itoa_wd _ _ hb)
  · exact h44
  · exact wd_no hc' (itoa_wd _ _ hb)
  · exact h44
  · exact wd_no hc' (turn_wd t0 t1)
theorem to_wd {f : Factor} (h : vldFactor f = true) : ∀ b ∈ f.to.data.toList, wd b := by
  obtain ⟨_, _, _, _, _, _, h⟩ := vld_parts h
  rcases h with h | h
  · exact nm_wd h
  · exact nm_wd h
theorem fac_split {f : Factor} (h : vldFactor f = true) : splitL (isB 32) [] (facL f) = kindL f.kind :: Lib.itoa f.id :: ((if f.kind = 1 then [] else [f.frm.data.toList]) ++ [f.to.data.toList, poseL f.pose.turn f.pose.x f.pose.y, Lib.itoa f.weight]) := by
  obtain ⟨h1, h2, h3, h4, h5, h6, h7⟩ := vld_parts h
  unfold facL
  have tail : splitL (isB 32) [] (f.to.data.toList ++ 32 :: (poseL f.pose.turn f.pose.x f.pose.y ++ 32 :: Lib.itoa f.weight)) = [f.to.data.toList, poseL f.pose.turn f.pose.x f.pose.y, Lib.itoa f.weight] := by
    rw [splitL_word (isB_self 32) _ _ _ (no_of (by simp) (to_wd h)), splitL_word (isB_self 32) _ _ _ (pose_no32 h3 (by simp)), splitL_last _ _ (no_of (by simp) (itoa_wd _))]
    rfl
  rw [splitL_word (isB_self 32) _ _ _ (no_of (by simp) (kind_wd _)), splitL_word (isB_self 32) _ _ _ (no_of (by simp) (itoa_wd _))]
  by_cases hk : f.kind = 1
  · rw [if_pos hk, show frmL f.kind f.frm = [] by unfold frmL; rw [if_pos hk]]
    simp only [List.nil_append]
    rw [tail]
  · rw [if_neg hk, show frmL f.kind f.frm = f.frm.data.toList ++ [32] by unfold frmL; rw [if_neg hk]]
    simp only [List.append_assoc, List.cons_append, List.nil_append]
    rw [splitL_word (isB_self 32) _ _ _ (no_of (by simp) (nm_wd (h6 hk))), tail]
    rfl
theorem fac_words {s : ByteArray} {f : Factor} {L : List ByteArray} (h : FacOf s f) (hL : L.map (fun x => x.data.toList) = splitL (isB 32) [] s.data.toList) :
    ((L.length = 5 ∧ f.kind = 1 ∧ f.frm = ⟨#[]⟩) ∨ (L.length = 6 ∧ f.kind ≠ 1 ∧ L[2]? = some f.frm)) ∧ (∃ w0, L[0]? = some w0 ∧ w0.data.toList = kindL f.kind) ∧
    (∃ w1, L[1]? = some w1 ∧ psI w1 = some f.id) ∧ L[L.length - 3]? = some f.to ∧ (∃ w4, L[L.length - 2]? = some w4 ∧ psPose w4 = some f.pose) ∧ ∃ w5, L[L.length - 1]? = some w5 ∧ psI w5 = some f.weight := by
  rw [← h.2, fac_split h.1] at hL
  obtain ⟨h1, h2, h3, h4, h5, h6, h7⟩ := vld_parts h.1
  have i1 := inR_iff.1 h1
  have i2 := inR_iff.1 h2
  have hp : PoseOf ⟨(poseL f.pose.turn f.pose.x f.pose.y).toArray⟩ f.pose := ⟨h3, by simp⟩
  by_cases hk : f.kind = 1
  · rw [if_pos hk] at hL
    have hf : f.frm = ⟨#[]⟩ := by
      have := h5 hk
      rw [ByteArray.toList_eq] at this
      exact bext (by simpa using this)
    rcases L with _ | ⟨a, _ | ⟨b, _ | ⟨c, _ | ⟨d, _ | ⟨e, _ | ⟨g, L⟩⟩⟩⟩⟩⟩
    all_goals simp only [List.map_cons, List.map_nil, List.nil_append, List.cons.injEq, reduceCtorEq, and_false, and_true, List.nil_eq, List.cons_ne_nil] at hL
    obtain ⟨e0, e1, e2, e3, e4⟩ := hL
    have x3 : d = ⟨(poseL f.pose.turn f.pose.x f.pose.y).toArray⟩ := bext (by rw [e3])
    exact ⟨.inl ⟨rfl, hk, hf⟩, ⟨a, rfl, e0⟩, ⟨b, rfl, psI_some (by omega) (by omega) (bext (by rw [e1]; simp [itoaB]))⟩, by simp; exact bext e2, ⟨d, rfl, by rw [x3]; exact psPose_some hp⟩, e, rfl, psI_some (by omega) (by omega) (bext (by rw [e4]; simp [itoaB]))⟩
  · rw [if_neg hk] at hL
    rcases L with _ | ⟨a, _ | ⟨b, _ | ⟨c, _ | ⟨d, _ | ⟨e, _ | ⟨g, _ | ⟨z, L⟩⟩⟩⟩⟩⟩⟩
    all_goals simp only [List.map_cons, List.map_nil, List.nil_append, List.cons_append, List.cons.injEq, reduceCtorEq, and_false, and_true, List.nil_eq, List.cons_ne_nil] at hL
    obtain ⟨e0, e1, e2, e3, e4, e5⟩ := hL
    have x3 : e = ⟨(poseL f.pose.turn f.pose.x f.pose.y).toArray⟩ := bext (by rw [e4])
    exact ⟨.inr ⟨rfl, hk, by simp; exact bext e2⟩, ⟨a, rfl, e0⟩, ⟨b, rfl, psI_some (by omega) (by omega) (bext (by rw [e1]; simp [itoaB]))⟩, by simp; exact bext e3, ⟨e, rfl, by rw [x3]; exact psPose_some hp⟩, g, rfl, psI_some (by omega) (by omega) (bext (by rw [e5]; simp [itoaB]))⟩
theorem fac_one {s : ByteArray} {f g : Factor} (h : FacOf s f) (k : FacOf s g) : f = g := by
  obtain ⟨L, hL⟩ := words_of s 32
  obtain ⟨a1, ⟨w0, a2, a3⟩, ⟨w1, a4, a5⟩, a6, ⟨w4, a7, a8⟩, w5, a9, a10⟩ := fac_words h hL
  obtain ⟨b1, ⟨v0, b2, b3⟩, ⟨v1, b4, b5⟩, b6, ⟨v4, b7, b8⟩, v5, b9, b10⟩ := fac_words k hL
  rw [a2] at b2; rw [a4] at b4; rw [a6] at b6; rw [a7] at b7; rw [a9] at b9
  simp only [Option.some.injEq] at b2 b4 b6 b7 b9
  subst b2 b4 b7 b9
  rw [a5] at b5; rw [a8] at b8; rw [a10] at b10
  simp only [Option.some.injEq] at b5 b8 b10
  have hk := kindL_inj (vld_parts h.1).2.2.2.1 (vld_parts k.1).2.2.2.1 (a3.symm.trans b3)
  have hf : f.frm = g.frm := by
    rcases a1 with ⟨n1, _, r1⟩ | ⟨n1, _, r1⟩ <;> rcases b1 with ⟨n2, _, r2⟩ | ⟨n2, _, r2⟩
    · rw [r1, r2]
    · omega
    · omega
    · rw [r1] at r2; simpa using r2
  obtain ⟨fi, fk, ff, ft, fp, fw⟩ := f
  obtain ⟨gi, gk, gf, gt, gp, gw⟩ := g
  simp only at b5 b8 b10 b6 hk hf
  rw [b5, b8, b10, b6, hk, hf]
noncomputable def psFac (s : ByteArray) : Option Factor := the (FacOf s)
theorem psFac_some {s : ByteArray} {p : Factor} (h : FacOf s p) : psFac s = some p := the_some (fun q hq => fac_one hq h) h
theorem psFac_none {s : ByteArray} (h : ∀ p, ¬ FacOf s p) : psFac s = none := the_none h
theorem psFac_text {s : ByteArray} {p : Factor} (h : psFac s = some p) : FacOf s p := the_text h
theorem facOf_iff {s : ByteArray} {f : Factor} : FacOf s f ↔ vldFactor f = true ∧ fmtFac f = s := by
  constructor
  · intro h
    refine ⟨h.1, ?_⟩
    unfold fmtFac
    rw [if_pos h.1]
    exact bext (by rw [← h.2])
  · intro h
    refine ⟨h.1, ?_⟩
    have := h.2
    unfold fmtFac at this
    rw [if_pos h.1] at this
    rw [← this]
end Go.Proofs.YtebcdjpddoaajaaDoor

/- Texts put together; cells of a block just made. -/
namespace Go.Proofs.YtebcdjpddoaajaaDoor
open Go.RowKit
set_option linter.unusedVariables false
set_option linter.unusedSimpArgs false
set_option maxHeartbeats 1000000
set_option maxRecDepth 100000
/-- two texts, put together: the sum under a name, with its length -/
theorem cat (a b : ByteArray) (n m : Nat) (ha : a.size ≤ n) (hb : b.size ≤ m) (h : n + m ≤ 1099511627776) : ∃ s : ByteArray, Hid (a ++ b = s) ∧ s.size ≤ n + m ∧ ∀ w, (Op.stringOp .add a b).run Tryd.prog w = .ok (.string s) w :=
  ⟨a ++ b, rfl, by rw [ByteArray.size_append]; omega, catOk (by omega)⟩
theorem cells_a {w : World} {cs : Array Value} {t : TypeId} {k : Nat} {v : Value} (h : cs[k]? = some v) : (w.alloc (.cells cs t)).cell? ⟨w.heap.size, k, none⟩ = some v := by
  have e : (w.alloc (.cells cs t)).heap[w.heap.size]? = some (.cells cs t) := heap_alloc_new w _
  unfold World.cell?
  rw [e]
  exact h
theorem cells_d {w : World} {cs : Array Value} {t : TypeId} {k : Nat} {v : Value} (h : cs[k]? = some v) : ((w.alloc (.cells cs t)).drew).cell? ⟨w.heap.size, k, none⟩ = some v := cells_a h
end Go.Proofs.YtebcdjpddoaajaaDoor
