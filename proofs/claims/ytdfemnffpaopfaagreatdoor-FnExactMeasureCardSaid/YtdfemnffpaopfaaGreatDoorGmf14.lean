/- Texts of this proof, one behind the other: ShelfI, Tab. -/
import Derived.Shelf.Strconv.Itoa3
import Derived.Test.YtdfemnffpaopfaaGreatDoorProg
import Derived.Test.YtdfemnffpaopfaaGreatDoorCards
import Derived.Test.YtdfemnffpaopfaaGreatDoorTie
import Derived.Deep.DeepHandedRow
import Derived.Lib.LaidTab
import Derived.Lib.AppendIntMem
import Derived.Stop.LaidErr
import Derived.Stop.Joined
import Derived.LaidMore
import Derived.Test.YtdfemnffpaopfaaGreatDoorGmf8
namespace Go.Proofs
open Go.Shelf
def YtdfemnffpaopfaaGreatDoor.laysM171_ren:Go.Shelf.Ren:=⟨fun | 171=>94 | 243=>146 | 246=>185 | 283=>205 | 284=>206 | 285=>207 | 286=>208 | 129=>221 | 317=>220 | 318=>222 | 319=>223 | 320=>224 | 337=>231 | 338=>232 | n=>n,fun | 3=>3 | 9=>9 | 2=>2 | 4=>4 | 171=>210 | 0=>0 | 53=>211 | 37=>22 | 5=>5 | 173=>214 | 212=>229 | 51=>230 | 20=>20 | 213=>231 | 46=>131 | 232=>247 | 233=>248 | n=>n,fun | 17=>1 | 18=>4 | 19=>5 | n=>n⟩
theorem YtdfemnffpaopfaaGreatDoor.laysM171:Go.Proofs.LaysM.n171 Tryz.prog YtdfemnffpaopfaaGreatDoor.laysM171_ren:={
  mixed:=by kernel_rfl
  f129:=Tryz.func221.trans (congrArg some (by kernel_rfl))
  f171:=Tryz.func94.trans (congrArg some (by kernel_rfl))
  f243:=Tryz.func146.trans (congrArg some (by kernel_rfl))
  f246:=Tryz.func185.trans (congrArg some (by kernel_rfl))
  f283:=Tryz.func205.trans (congrArg some (by kernel_rfl))
  f284:=Tryz.func206.trans (congrArg some (by kernel_rfl))
  f285:=Tryz.func207.trans (congrArg some (by kernel_rfl))
  f286:=Tryz.func208.trans (congrArg some (by kernel_rfl))
  f317:=Tryz.func220.trans (congrArg some (by kernel_rfl))
  f318:=Tryz.func222.trans (congrArg some (by kernel_rfl))
  f319:=Tryz.func223.trans (congrArg some (by kernel_rfl))
  f320:=Tryz.func224.trans (congrArg some (by kernel_rfl))
  f337:=Tryz.func231.trans (congrArg some (by kernel_rfl))
  f338:=Tryz.func232.trans (congrArg some (by kernel_rfl))
  t0:=Tryz.underlying0
  a0:=Tryz.isAgg0
  z0:=Tryz.sizeOf0
  v0:=Tryz.zeroValue0
  t2:=Tryz.underlying2
  a2:=Tryz.isAgg2
  z2:=Tryz.sizeOf2
  v2:=Tryz.zeroValue2
  t3:=Tryz.underlying3
  a3:=Tryz.isAgg3
  z3:=Tryz.sizeOf3
  v3:=Tryz.zeroValue3
  t4:=Tryz.underlying4
  a4:=Tryz.isAgg4
  z4:=Tryz.sizeOf4
  v4:=Tryz.zeroValue4
  t5:=Tryz.underlying5
  a5:=Tryz.isAgg5
  z5:=Tryz.sizeOf5
  v5:=Tryz.zeroValue5
  t9:=Tryz.underlying9
  a9:=Tryz.isAgg9
  z9:=Tryz.sizeOf9
  v9:=Tryz.zeroValue9
  t20:=Tryz.underlying20
  a20:=Tryz.isAgg20
  z20:=Tryz.sizeOf20
  v20:=Tryz.zeroValue20
  t37:=Tryz.underlying22
  a37:=Tryz.isAgg22
  z37:=Tryz.sizeOf22
  v37:=Tryz.zeroValue22
  t46:=Tryz.underlying131
  a46:=Tryz.isAgg131
  z46:=Tryz.sizeOf131
  v46:=Tryz.zeroValue131
  t51:=Tryz.underlying230
  a51:=Tryz.isAgg230
  z51:=Tryz.sizeOf230
  v51:=Tryz.zeroValue230
  t53:=Tryz.underlying211
  a53:=Tryz.isAgg211
  z53:=Tryz.sizeOf211
  v53:=Tryz.zeroValue211
  t171:=Tryz.underlying210
  a171:=Tryz.isAgg210
  z171:=Tryz.sizeOf210
  v171:=Tryz.zeroValue210
  t173:=Tryz.underlying214
  a173:=Tryz.isAgg214
  z173:=Tryz.sizeOf214
  v173:=Tryz.zeroValue214
  t212:=Tryz.underlying229
  a212:=Tryz.isAgg229
  z212:=Tryz.sizeOf229
  v212:=Tryz.zeroValue229
  t213:=Tryz.underlying231
  a213:=Tryz.isAgg231
  z213:=Tryz.sizeOf231
  t232:=Tryz.underlying247
  a232:=Tryz.isAgg247
  z232:=Tryz.sizeOf247
  v232:=Tryz.zeroValue247
  t233:=Tryz.underlying248
  a233:=Tryz.isAgg248
  z233:=Tryz.sizeOf248
  v233:=Tryz.zeroValue248
  g17:=by kernel_rfl
  g18:=by kernel_rfl
  g19:=by kernel_rfl
  i0:=by kernel_rfl
  i2:=by kernel_rfl
  i3:=by kernel_rfl
  i4:=by kernel_rfl
  i5:=by kernel_rfl
  i9:=by kernel_rfl
  i20:=by kernel_rfl
  i37:=by kernel_rfl
  i46:=by kernel_rfl
  i51:=by kernel_rfl
  i53:=by kernel_rfl
  i171:=by kernel_rfl
  i173:=by kernel_rfl
  i212:=by kernel_rfl
  i232:=by kernel_rfl
  i233:=by kernel_rfl
  m17:=by kernel_rfl
  m18:=by kernel_rfl
  m19:=by kernel_rfl }
theorem YtdfemnffpaopfaaGreatDoor.strconv_Itoa (n : Int) (h0 : -9223372036854775808 ≤ n) (h1 : n ≤ 9223372036854775807) (w : World) (htab : Lib.TabIs Tryz.prog w "internal/strconv.uint64pow10" .u64 Lib.pow10Tab) :
    Calls Tryz.prog 94 #[.int .i64 n] w fun e w'=>e=.returned (.string ⟨(Lib.itoa n).toArray⟩)∧∃ k os,w'=Go.Sort.grow (w.drewN k) os:=Any.strconv_Itoa YtdfemnffpaopfaaGreatDoor.laysM171 n h0 h1 w htab
end Go.Proofs


namespace Go.Proofs.YtdfemnffpaopfaaGreatDoor
open Go.ChangeShapes Go.WideShapes Go.ChangeAt Go.RowKit
set_option linter.unusedVariables false
set_option linter.unusedSimpArgs false
theorem gTab : Tryz.prog.globalNamed "internal/strconv.uint64pow10" = some 1 := by kernel_rfl
theorem gTabType:(Tryz.prog.globals[1]?).map (·.type)=some 229:=by kernel_rfl
theorem cTab:Tryz.prog.cellsOf 229=20:=by kernel_rfl
theorem cTab1:Tryz.prog.cellsOf 211=1:=by kernel_rfl
def Tab (w : World) : Prop := Lib.TabIs Tryz.prog w "internal/strconv.uint64pow10" .u64 Lib.pow10Tab
theorem Tab.below {w w':World} (h:Tab w) (hb:Below w.heap.size w w'):Tab w':=Lib.tabBelow_of_tabIs h w' hb
theorem tabData_eq:(Rows.laid_internal_strconv_uint64pow10:DataW Unit)=Lib.tabData .u64 Lib.pow10Tab:=by kernel_rfl
theorem impl_FormatInt_c (n:Int) (w:World) (h0:-9223372036854775808≤n) (h1:n≤9223372036854775807) (hT:Tab w):Calls Tryz.prog 45 #[.int .i64 n] w fun e w'=>e=.returned (.string (itoaB n))∧Below w.heap.size w w':=by
  go_enter Tryz.func45,Tryz.ntmps45
  go_wp2_with (go_at_call 94;refine (YtdfemnffpaopfaaGreatDoor.strconv_Itoa n h0 h1 _ hT).mono ?_;rintro e w1 ⟨rfl,k,os,rfl⟩)
  go_ret
  exact ⟨rfl,Lib.below_grow _ _ (Nat.le_refl _) _ _⟩
end Go.Proofs.YtdfemnffpaopfaaGreatDoor

