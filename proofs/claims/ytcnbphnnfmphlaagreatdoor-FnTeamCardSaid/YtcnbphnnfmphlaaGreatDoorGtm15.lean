/- Texts of this proof. -/
import Derived.Shelf.Strconv.ErrVarAll
import Derived.Test.YtcnbphnnfmphlaaGreatDoorGtm13
import Derived.Test.YtcnbphnnfmphlaaGreatDoorGtm14
namespace Go.Proofs
open Go.Shelf
def YtcnbphnnfmphlaaGreatDoor.Gx:Go.Shelf.Ren:=⟨fun|172=>110|244=>145|245=>146|247=>177|279=>178|280=>179|281=>180|282=>181|287=>204|316=>205|171=>71|205=>206|321=>222|322=>223|243=>104|246=>143|283=>173|284=>174|285=>175|286=>176|129=>200|317=>199|318=>201|319=>202|320=>203|337=>220|338=>221|n=>n,fun|9=>9|3=>3|75=>181|76=>182|4=>4|5=>5|167=>252|37=>22|0=>0|85=>253|2=>2|168=>255|53=>237|175=>275|46=>98|210=>279|127=>289|145=>292|143=>290|21=>21|171=>247|173=>250|212=>271|51=>272|20=>20|213=>273|232=>295|233=>296|80=>298|n=>n,fun|15=>2|16=>3|17=>1|18=>4|19=>5|n=>n⟩
theorem YJ:Go.Proofs.LaysC.n172 Tryz.prog YtcnbphnnfmphlaaGreatDoor.Gx:={
 mixed:=by kernel_rfl
 f129:=Tryz.func200.trans (congrArg some (by kernel_rfl))
 f171:=Tryz.func71.trans (congrArg some (by kernel_rfl))
 f172:=Tryz.func110.trans (congrArg some (by kernel_rfl))
 f205:=Tryz.func206.trans (congrArg some (by kernel_rfl))
 f243:=Tryz.func104.trans (congrArg some (by kernel_rfl))
 f244:=Tryz.func145.trans (congrArg some (by kernel_rfl))
 f245:=Tryz.func146.trans (congrArg some (by kernel_rfl))
 f246:=Tryz.func143.trans (congrArg some (by kernel_rfl))
 f247:=Tryz.func177.trans (congrArg some (by kernel_rfl))
 f279:=Tryz.func178.trans (congrArg some (by kernel_rfl))
 f280:=Tryz.func179.trans (congrArg some (by kernel_rfl))
 f281:=Tryz.func180.trans (congrArg some (by kernel_rfl))
 f282:=Tryz.func181.trans (congrArg some (by kernel_rfl))
 f283:=Tryz.func173.trans (congrArg some (by kernel_rfl))
 f284:=Tryz.func174.trans (congrArg some (by kernel_rfl))
 f285:=Tryz.func175.trans (congrArg some (by kernel_rfl))
 f286:=Tryz.func176.trans (congrArg some (by kernel_rfl))
 f287:=Tryz.func204.trans (congrArg some (by kernel_rfl))
 f316:=Tryz.func205.trans (congrArg some (by kernel_rfl))
 f317:=Tryz.func199.trans (congrArg some (by kernel_rfl))
 f318:=Tryz.func201.trans (congrArg some (by kernel_rfl))
 f319:=Tryz.func202.trans (congrArg some (by kernel_rfl))
 f320:=Tryz.func203.trans (congrArg some (by kernel_rfl))
 f321:=Tryz.func222.trans (congrArg some (by kernel_rfl))
 f322:=Tryz.func223.trans (congrArg some (by kernel_rfl))
 f337:=Tryz.func220.trans (congrArg some (by kernel_rfl))
 f338:=Tryz.func221.trans (congrArg some (by kernel_rfl))
 t0:=Tryz.underlying0
 a0:=Tryz.isAgg0
 z0:=Tryz.sizeOf0
 v0:=Tryz.zeroValue0
 t2:=Tryz.underlying2
 a2:=Tryz.isAgg2
 z2:=Tryz.sizeOf2
 v2:=Tryz.zeroValue2
 t3:=Tryz.underlying3
 a3:=Tryz.isAgg3
 z3:=Tryz.sizeOf3
 v3:=Tryz.zeroValue3
 t4:=Tryz.underlying4
 a4:=Tryz.isAgg4
 z4:=Tryz.sizeOf4
 v4:=Tryz.zeroValue4
 t5:=Tryz.underlying5
 a5:=Tryz.isAgg5
 z5:=Tryz.sizeOf5
 v5:=Tryz.zeroValue5
 t9:=Tryz.underlying9
 a9:=Tryz.isAgg9
 z9:=Tryz.sizeOf9
 v9:=Tryz.zeroValue9
 t20:=Tryz.underlying20
 a20:=Tryz.isAgg20
 z20:=Tryz.sizeOf20
 v20:=Tryz.zeroValue20
 t21:=Tryz.underlying21
 a21:=Tryz.isAgg21
 z21:=Tryz.sizeOf21
 v21:=Tryz.zeroValue21
 t37:=Tryz.underlying22
 a37:=Tryz.isAgg22
 z37:=Tryz.sizeOf22
 v37:=Tryz.zeroValue22
 t46:=Tryz.underlying98
 a46:=Tryz.isAgg98
 z46:=Tryz.sizeOf98
 v46:=Tryz.zeroValue98
 t51:=Tryz.underlying272
 a51:=Tryz.isAgg272
 z51:=Tryz.sizeOf272
 v51:=Tryz.zeroValue272
 t53:=Tryz.underlying237
 a53:=Tryz.isAgg237
 z53:=Tryz.sizeOf237
 v53:=Tryz.zeroValue237
 t75:=Tryz.underlying181
 a75:=Tryz.isAgg181
 z75:=Tryz.sizeOf181
 v75:=Tryz.zeroValue181
 t76:=Tryz.underlying182
 a76:=Tryz.isAgg182
 z76:=Tryz.sizeOf182
 v76:=Tryz.zeroValue182
 t85:=Tryz.underlying253
 a85:=Tryz.isAgg253
 z85:=Tryz.sizeOf253
 v85:=Tryz.zeroValue253
 t127:=Tryz.underlying289
 a127:=Tryz.isAgg289
 z127:=Tryz.sizeOf289
 v127:=Tryz.zeroValue289
 t143:=Tryz.underlying290
 a143:=Tryz.isAgg290
 z143:=Tryz.sizeOf290
 v143:=Tryz.zeroValue290
 t145:=Tryz.underlying292
 a145:=Tryz.isAgg292
 z145:=Tryz.sizeOf292
 v145:=Tryz.zeroValue292
 t167:=Tryz.underlying252
 a167:=Tryz.isAgg252
 z167:=Tryz.sizeOf252
 v167:=Tryz.zeroValue252
 t168:=Tryz.underlying255
 a168:=Tryz.isAgg255
 z168:=Tryz.sizeOf255
 v168:=Tryz.zeroValue255
 t171:=Tryz.underlying247
 a171:=Tryz.isAgg247
 z171:=Tryz.sizeOf247
 v171:=Tryz.zeroValue247
 t173:=Tryz.underlying250
 a173:=Tryz.isAgg250
 z173:=Tryz.sizeOf250
 v173:=Tryz.zeroValue250
 t175:=Tryz.underlying275
 a175:=Tryz.isAgg275
 z175:=Tryz.sizeOf275
 v175:=Tryz.zeroValue275
 t210:=Tryz.underlying279
 a210:=Tryz.isAgg279
 z210:=Tryz.sizeOf279
 v210:=Tryz.zeroValue279
 t212:=Tryz.underlying271
 a212:=Tryz.isAgg271
 z212:=Tryz.sizeOf271
 v212:=Tryz.zeroValue271
 t213:=Tryz.underlying273
 a213:=Tryz.isAgg273
 z213:=Tryz.sizeOf273
 t232:=Tryz.underlying295
 a232:=Tryz.isAgg295
 z232:=Tryz.sizeOf295
 v232:=Tryz.zeroValue295
 t233:=Tryz.underlying296
 a233:=Tryz.isAgg296
 z233:=Tryz.sizeOf296
 v233:=Tryz.zeroValue296
 g15:=by kernel_rfl
 g16:=by kernel_rfl
 g17:=by kernel_rfl
 g18:=by kernel_rfl
 g19:=by kernel_rfl
 t80:=Tryz.underlying298
 a80:=Tryz.isAgg298
 z80:=Tryz.sizeOf298
 v80:=Tryz.zeroValue298
 i0:=by kernel_rfl
 i2:=by kernel_rfl
 i3:=by kernel_rfl
 i4:=by kernel_rfl
 i5:=by kernel_rfl
 i9:=by kernel_rfl
 i20:=by kernel_rfl
 i21:=by kernel_rfl
 i37:=by kernel_rfl
 i46:=by kernel_rfl
 i51:=by kernel_rfl
 i53:=by kernel_rfl
 i75:=by kernel_rfl
 i76:=by kernel_rfl
 i80:=by kernel_rfl
 i85:=by kernel_rfl
 i127:=by kernel_rfl
 i143:=by kernel_rfl
 i145:=by kernel_rfl
 i167:=by kernel_rfl
 i168:=by kernel_rfl
 i171:=by kernel_rfl
 i173:=by kernel_rfl
 i175:=by kernel_rfl
 i210:=by kernel_rfl
 i212:=by kernel_rfl
 i232:=by kernel_rfl
 i233:=by kernel_rfl
 m15:=by kernel_rfl
 m16:=by kernel_rfl
 m17:=by kernel_rfl
 m18:=by kernel_rfl
 m19:=by kernel_rfl
 c0:=by kernel_rfl
 c2:=by kernel_rfl
 c3:=by kernel_rfl
 c4:=by kernel_rfl
 c5:=by kernel_rfl
 c9:=by kernel_rfl
 c20:=by kernel_rfl
 c21:=by kernel_rfl
 c37:=by kernel_rfl
 c46:=by kernel_rfl
 c51:=by kernel_rfl
 c53:=by kernel_rfl
 c75:=by kernel_rfl
 c76:=by kernel_rfl
 c80:=by kernel_rfl
 c85:=by kernel_rfl
 c127:=by kernel_rfl
 c143:=by kernel_rfl
 c145:=by kernel_rfl
 c167:=by kernel_rfl
 c168:=by kernel_rfl
 c171:=by kernel_rfl
 c173:=by kernel_rfl
 c175:=by kernel_rfl
 c210:=by kernel_rfl
 c212:=by kernel_rfl
 c213:=by kernel_rfl
 c232:=by kernel_rfl
 c233:=by kernel_rfl }
open Go.RowKit in
theorem YtcnbphnnfmphlaaGreatDoor.strconv_Atoi_ok(s:ByteArray)(hmax:s.size<=9223372036854775806)(v:Int)(h:Lib.atoiAll s.data.toList=.ok v)(w:World):
  Calls Tryz.prog 110 #[.string s] w fun e w'=>e=.returned (.tuple #[.int .i64 v,.nilIface])/\(w'=w∨∃ t,w'=Lib.bytesWorld w 5 t):=Any.strconv_Atoi_ok YJ s hmax v h w
open Go.RowKit in
theorem YtcnbphnnfmphlaaGreatDoor.strconv_Atoi_syntax(s:ByteArray)(hlim:s.size<=281474976710656)(h:Lib.atoiAll s.data.toList=Lib.atoiAll [])(ev:Value)(w:World)(hv:w.cell? ⟨2,0,none⟩=some ev)(hev:ev=.nilIface∨∃ te pe,ev=.iface te pe):
  Calls Tryz.prog 110 #[.string s] w fun e w'=>∃ N,e=.returned (.tuple #[.int .i64 (0),.iface 255 (.pointer (some ⟨N,0,none⟩))])/\w.heap.size<=N/\w'.heap[N]? = some (.cells #[.string ⟨#[65,116,111,105]⟩,.string s,ev] 279 (0,0))/\Below w.heap.size w w':=Any.strconv_Atoi_syntax YJ s hlim h ev w hv hev
open Go.RowKit in
theorem YtcnbphnnfmphlaaGreatDoor.strconv_Atoi_range(s:ByteArray)(hlim:s.size<=281474976710656)(h:Lib.atoiAll s.data.toList=.range)(ev:Value)(w:World)(hv:w.cell? ⟨3,0,none⟩=some ev)(hev:ev=.nilIface∨∃ te pe,ev=.iface te pe):
  Calls Tryz.prog 110 #[.string s] w fun e w'=>∃ N,e=.returned (.tuple #[.int .i64 (Lib.atoiSat s.data.toList),.iface 255 (.pointer (some ⟨N,0,none⟩))])/\w.heap.size<=N/\w'.heap[N]? = some (.cells #[.string ⟨#[65,116,111,105]⟩,.string s,ev] 279 (0,0))/\Below w.heap.size w w':=Any.strconv_Atoi_range YJ s hlim h ev w hv hev
end Go.Proofs


namespace Go.Proofs.YtcnbphnnfmphlaaGreatDoor
open Bool renaming and_eq_true → Zc
open Go.Lib renaming hid → Z5,itoa → ZV
open Option.some renaming injEq → Zi
open Go.Proofs.Tryz
open Go.RowKit
set_option linter.unusedVariables false
set_option linter.unusedSimpArgs false
set_option maxHeartbeats 1000000
set_option maxRecDepth 100000
variable{f:A7}{L:List ByteArray}{p:AX}{w':World}
section
open Go.ChangeShapes Go.WideShapes Go.ChangeAt Go.RowKit
set_option linter.unusedVariables false
set_option linter.unusedSimpArgs false
set_option maxRecDepth 100000
theorem Zrc : Tryz.prog.globalNamed "strconv.ErrSyntax" = some 2 := by kernel_rfl
theorem Zre : Tryz.prog.globalNamed "strconv.ErrRange" = some 3 := by kernel_rfl
theorem Zrb :(Tryz.prog.globals[2]?).map (·.type)=some 181:=by kernel_rfl
theorem Zrd :(Tryz.prog.globals[3]?).map (·.type)=some 181:=by kernel_rfl
theorem Zkn : "*" ++ "errors.errorString" = "*errors.errorString" := by decide
theorem ZnO (u : TypeId) (h : Tryz.prog.typeName? 3 u = some "*errors.errorString") : u = 290 :=
 typeName_ptr_named (nm := "errors.errorString") (by rw [Zkn]; kernel_rfl) BC AO u (by rw [Zkn]; exact h)
theorem Ztx :∃ ms,Tryz.prog.underlying 181=some (.interface ms):=by
 have h:(match Tryz.prog.underlying 181 with|some (.interface _)=>true|_=>false)=true:=by kernel_rfl
 revert h;cases Tryz.prog.underlying 181 with
 |none=>intro h;cases h
 |some t=>cases t<;>intro h<;>first|exact⟨_,rfl⟩| cases h
theorem Zte :Tryz.prog.underlying 290=some (.pointer 292):=by kernel_rfl
theorem Ztf : Tryz.prog.underlying 292 = some (.struct #[⟨"s", 9, 0, false, "", "errors", 0⟩]) := by kernel_rfl
theorem Ztg :Tryz.prog.cellsOf 292=1:=by kernel_rfl
theorem Zt0 :Tryz.prog.cellsOf 9=1:=by kernel_rfl
theorem ZsZ :Tryz.prog.underlying 9=some .string:=by kernel_rfl
def EX(w:World):Prop:=Ct w/\(∃ tp p,w.cell? ⟨2,0,none⟩=some (.iface tp p))/\∃ tp p,w.cell? ⟨3,0,none⟩=some (.iface tp p)
theorem EX.tab{w:World}(h:EX w):Ct w:=h.1
theorem EX.below{w:World}(h:EX w)(hb:Below w.heap.size w w'):EX w':=by
 obtain⟨h1,⟨tp,p,h2⟩,tq,q,h3⟩:=h;exact⟨h1.below hb,⟨tp,p,Zm hb h2⟩,tq,q,Zm hb h3⟩
def UO : List (String × DataW Unit) := [("math/bits.deBruijn32tab", Rows.laid_math_bits_deBruijn32tab), ("math/bits.deBruijn64tab", Rows.laid_math_bits_deBruijn64tab), ("internal/strconv.uint64pow10", Rows.laid_internal_strconv_uint64pow10), ("strconv.ErrRange", Rows.laid_strconv_ErrRange), ("strconv.ErrSyntax", Rows.laid_strconv_ErrSyntax)]
theorem Zcb{W:World}(h:laidMetH prog UO W):EX W:=by
 rw[MakeChecks.laidMetH_plain _ _ _ BC]at h;have h2:=h.tail.tail;rw[Zgy]at h2;have h3:=h2.tail;have h4:=h3.tail;obtain⟨ms,hi⟩:=Ztx;obtain⟨a,s,hv,_⟩:=laid_sentinel h3 Zre Zrd hi ZnO Zte Ztf rfl rfl ZsZ Ztg Zt0;obtain⟨b,t,hv2,_⟩:=laid_sentinel h4 Zrc Zrb hi ZnO Zte Ztf rfl rfl ZsZ Ztg Zt0;exact⟨Lib.tabIs_of_head Ztw Zmh underlying271 underlying237 ZsF Ztz h2,⟨_,_,by rw[World.var?_cell Zrc hv2 0];rfl⟩,_,_,by rw[World.var?_cell Zre hv 0];rfl⟩
theorem Zd0(v:Int):(Ya v).toList=ZV v:=by rw[ByteArray.toList_eq];simp[Ya]
theorem ZnZ{w:World}(h:w'=w∨∃ t,w'=Lib.bytesWorld w 5 t):Below w.heap.size w w':=by
 rcases h with rfl |⟨t,rfl⟩
 .exact Below.refl _ _
 .exact Lib.bytesWorld_below _ _ _
theorem Yj(s:ByteArray)(w:World)(hs:s.size<=4194304)(hT:EX w):Calls prog 81 #[.string s] w fun e w'=>e=.returned (OL (Ck s))/\Below w.heap.size w w':=by
 have HT:=Z5 hT;clear hT;cases ha:Lib.atoiAll s.data.toList
 case ok v =>
  obtain⟨v0,v1⟩:=Lib.atoiAll_bounds ha;have HA:=Z5 ha;clear ha;cases he:(ZV v == s.toList)with
  |true =>
   have HS:=Z5 (show Ya v=s from kL ((Zd0 v).trans (eq_of_beq he)));go_enter func81,ntmps81;go_wp2_with (first |(go_at_call 110;refine(YtcnbphnnfmphlaaGreatDoor.strconv_Atoi_ok s o_ v HA.out _).mono ?_;rintro e w1 ⟨rfl,hw1⟩;have hb1:=ZnZ hw1;clear hw1)|(go_at_call 71;refine(YtcnbphnnfmphlaaGreatDoor.strconv_Itoa v v0 v1 _ (HT.out.tab.below hb1)).mono ?_;rintro e w2 ⟨rfl,k,os,rfl⟩));refine bodyPost_ret (v:=.tuple #[.int .i64 v,.bool true]) (by simp[*,results,results81,go_sem]) rfl ⟨?_,hb1.trans (Lib.below_grow _ _ hb1.size _ _)⟩;rw[Jo v0 v1 HS.out];rfl
  |false =>
   have HS:=Z5 (show ¬ Ya v=s from fun e=>by rw[<- e,Zd0]at he;simp at he);go_enter func81,ntmps81;go_wp2_with (first |(go_at_call 110;refine(YtcnbphnnfmphlaaGreatDoor.strconv_Atoi_ok s o_ v HA.out _).mono ?_;rintro e w1 ⟨rfl,hw1⟩;have hb1:=ZnZ hw1;clear hw1)|(go_at_call 71;refine(YtcnbphnnfmphlaaGreatDoor.strconv_Itoa v v0 v1 _ (HT.out.tab.below hb1)).mono ?_;rintro e w2 ⟨rfl,k,os,rfl⟩));refine bodyPost_ret (v:=.tuple #[.int .i64 0,.bool false]) (by simp[*,results,results81,go_sem]) rfl ⟨?_,hb1.trans (Lib.below_grow _ _ hb1.size _ _)⟩;rw[vY];rfl;intro n h1 h2 h3;have h4:=aD h1 h2;have h5:s.data.toList=ZV n:=by rw[<- h3];simp[Ya]
   rw[<- h5,HA.out]at h4;injection h4 with h4;rw[<- h4]at h3;exact HS.out h3
 case range =>
  have HA:=Z5 ha;clear ha;obtain⟨tp,p,hcell⟩:=HT.out.2.2;go_enter func81,ntmps81;go_wp2_with (go_at_call 110;refine(YtcnbphnnfmphlaaGreatDoor.strconv_Atoi_range s o_ HA.out _ _ hcell (.inr ⟨tp,p,rfl⟩)).mono ?_;rintro e w1 ⟨N,rfl,hN,hC,hb1⟩;clear hcell);refine bodyPost_ret (v:=.tuple #[.int .i64 0,.bool false]) (by simp[*,results,results81,go_sem]) rfl ⟨?_,hb1⟩;rw[vY];rfl;intro n h1 h2 h3;have h4:=aD h1 h2;have h5:s.data.toList=ZV n:=by rw[<- h3];simp[Ya]
  rw[<- h5,HA.out]at h4;cases h4
 focus
  have HA:=Z5 ha;clear ha;obtain⟨tp,p,hcell⟩:=HT.out.2.1;go_enter func81,ntmps81;go_wp2_with (go_at_call 110;refine(YtcnbphnnfmphlaaGreatDoor.strconv_Atoi_syntax s o_ HA.out _ _ hcell (.inr ⟨tp,p,rfl⟩)).mono ?_;rintro e w1 ⟨N,rfl,hN,hC,hb1⟩;clear hcell);refine bodyPost_ret (v:=.tuple #[.int .i64 0,.bool false]) (by simp[*,results,results81,go_sem]) rfl ⟨?_,hb1⟩;rw[vY];rfl;intro n h1 h2 h3;have h4:=aD h1 h2;have h5:s.data.toList=ZV n:=by rw[<- h3];simp[Ya]
  rw[<- h5,HA.out]at h4;cases h4
end
noncomputable def the{α:Type}(P:α->Prop):Option α :=
 open Classical in if h:∃ a,P a then some (Classical.choose h)else none
theorem kM{α:Type}{P:α->Prop}{a:α}(hu:∀ b,P b->b=a)(h:P a):the P=some a:=by
 unfold the;rw[dif_pos ⟨a,h⟩,hu _ (Classical.choose_spec (p:=P) ⟨a,h⟩)]
theorem kN{α:Type}{P:α->Prop}(h:∀ a,¬ P a):the P=none:=by
 unfold the;rw[dif_neg];rintro⟨a,ha⟩;exact h a ha
theorem vZ{α:Type}{P:α->Prop}{a:α}(h:the P=some a):P a:=by
 unfold the at h;split at h
 case isTrue hx =>
  have hc:=Classical.choose_spec hx;injection h with h;rw[h]at hc;exact hc
 case isFalse=>cases h
def wd(b:UInt8):Prop:=b.toNat=45∨(48<=b.toNat/\b.toNat<=57)∨(97<=b.toNat/\b.toNat<=122)
theorem KQ{c b:UInt8}(hc:c=44∨c=32∨c=59∨c=10∨c=35)(h:wd b):Cc c b=false:=by
 unfold Cc;unfold wd at h;simp only[beq_eq_false_iff_ne];rintro rfl;rcases hc with rfl|rfl|rfl|rfl|rfl<;>revert h<;>decide
theorem JM(n:Int):∀ b∈ZV n,wd b:=by
 intro b hb;rcases Zhq n b hb with h|h
 .exact .inl h
 .exact .inr (.inl h)
theorem Zim{t:Int}(h0:0<=t)(h1:t<=3):wd (Ic t):=by
 obtain rfl|rfl|rfl|rfl:t=0∨t=1∨t=2∨t=3:=by omega
 all_goals (unfold wd;decide)
theorem Zin{t u:Int}(h0:0<=t)(h1:t<=3)(g0:0<=u)(g1:u<=3)(h:Ic t=Ic u):t=u:=by
 obtain rfl|rfl|rfl|rfl:t=0∨t=1∨t=2∨t=3:=by omega
 all_goals (obtain rfl|rfl|rfl|rfl:u=0∨u=1∨u=2∨u=3:=by omega)
 all_goals (first|rfl |(revert h;decide))
theorem ZjF(k:Int):∀ b∈KB k,wd b:=by
 unfold KB wd;split
 .decide
 split
 .decide
 split
 .decide
 .decide
theorem ZjH{k j:Int}(hk:k=1∨k=2∨k=3∨k=4)(hj:j=1∨j=2∨j=3∨j=4)(h:KB k=KB j):k=j:=by
 rcases hk with rfl|rfl|rfl|rfl<;>rcases hj with rfl|rfl|rfl|rfl
 all_goals (first|rfl |(revert h;decide))
theorem Zjn:∀ (l:List UInt8) (b:Bool),Od l b=true->∀ x∈l,wd x
 |[],_,_,x,hx=>by simp at hx
 |a::l,b,h,x,hx=>by
  rw[Od,Zc]at h
  rcases List.mem_cons.1 hx with rfl|hx
  .have h1:=h.1
   unfold PG at h1
   simp only[Bool.or_eq_true,Zc,decide_eq_true_eq]at h1
   unfold wd
   omega
  .exact Zjn l false h.2 x hx
theorem kP{s:ByteArray}{c:Int}(h:Xe s c=true):∀ x∈s.data.toList,wd x:=by
 unfold Xe FH at h;simp only[Zc]at h;exact Zjn _ _ h.1.2
theorem SF{c:UInt8}(hc:c=44∨c=32∨c=59∨c=10∨c=35){l:List UInt8}(h:∀ b∈l,wd b):∀ b∈l,Cc c b=false:=fun b hb=>KQ hc (h b hb)
theorem PZ(c:UInt8):Cc c c=true:=by simp[Cc]
def KR(s:ByteArray)(p:AX):Prop:=Yi p.turn p.x p.y=true/\Jp p.turn p.x p.y=s.data.toList
theorem SG{t x y:Int}(h:Yi t x y=true):(0<=t/\t<=3)/\(-1000000<=x/\x<=1000000)/\(-1000000<=y/\y<=1000000):=by
 unfold Yi at h;simp only[Zc,Y8]at h;exact⟨h.1,h.2.1,h.2.2⟩
theorem Zh0{t x y:Int}(h:Yi t x y=true):Yq (Cc 44) [] (Jp t x y)=[ZV x,ZV y,[Ic t]]:=by
 obtain⟨⟨t0,t1⟩,_,_⟩:=SG h;unfold Jp
 rw[Qw (PZ 44) _ _ _ (SF s_ (JM x)),
  show ZV y++[44,Ic t]=ZV y++44 ::[Ic t]from rfl,
  Qw (PZ 44) _ _ _ (SF s_ (JM y)),
  kK _ _ (by intro b hb;rw[List.mem_singleton.1 hb];exact KQ s_ (Zim t0 t1))]
 rfl
theorem aF{s:ByteArray}(h:KR s p)(hL:L.map (fun x=>x.data.toList)=Yq (Cc 44) [] s.data.toList):
  ∃ a b c,L=[a,b,c]/\Ck a=some p.x/\Ck b=some p.y/\c.data.toList=[Ic p.turn]:=by
 rw[<- h.2,Zh0 h.1]at hL;obtain⟨_,hx,hy⟩:=SG h.1;rcases L with _ |⟨a,_ |⟨b,_ |⟨c,_ |⟨d,L⟩⟩⟩⟩
 all_goals simp only[List.map_cons,List.map_nil,List.cons.injEq,reduceCtorEq,and_false,and_true,List.nil_eq,List.cons_ne_nil]at hL
 .exact⟨a,b,c,rfl,Jo o_ o_ (Dh (by rw[hL.1];simp[Ya])),Jo o_ o_ (Dh (by rw[hL.2.1];simp[Ya])),hL.2.2⟩
theorem wB(s:ByteArray)(c:UInt8):∃ L:List ByteArray,L.map (fun x=>x.data.toList)=Yq (Cc c) [] s.data.toList :=
 ⟨(Yq (Cc c) [] s.data.toList).map fun l=>⟨l.toArray⟩,by simp[Function.comp_def]⟩
theorem ZlG{s:ByteArray}{q:AX}(h:KR s p)(g:KR s q):p=q:=by
 obtain⟨L,hL⟩:=wB s 44;obtain⟨a,b,c,rfl,hx,hy,ht⟩:=aF h hL;obtain⟨a',b',c',e,hx',hy',ht'⟩:=aF g hL;simp only[List.cons.injEq,and_true]at e;obtain⟨rfl,rfl,rfl⟩:=e;rw[hx]at hx';rw[hy]at hy';rw[ht]at ht';obtain⟨t,x,y⟩:=p;obtain⟨t',x',y'⟩:=q;simp only[Zi,List.cons.injEq,and_true]at hx' hy' ht';have r:=SG h.1;have r':=SG g.1;simp only at r r' ht';have:=Zin r.1.1 r.1.2 r'.1.1 r'.1.2 ht';rw[hx',hy',this]
noncomputable def J7(s:ByteArray):Option AX:=the (KR s)
theorem wC{s:ByteArray}(h:KR s p):J7 s=some p:=kM (fun q hq=>ZlG hq h) h
theorem wD{s:ByteArray}(h:∀ p,¬ KR s p):J7 s=none:=kN h
theorem Zh1{s:ByteArray}{t x y:Int}  :KR s ⟨t,x,y⟩↔ Yi t x y=true/\Yn t x y=s:=by
 constructor
 .intro h;refine⟨h.1,?_⟩;unfold Yn;rw[if_pos h.1];exact Dh (by rw[<- h.2])
 .intro h;refine⟨h.1,?_⟩;have:=h.2;unfold Yn at this;rw[if_pos h.1]at this;rw[<- this]
def Ie(s:ByteArray)(f:A7):Prop:=Zy f=true/\EG f=s.data.toList
theorem ZcE{t x y:Int}(h:Yi t x y=true){c:UInt8}(hc:c=32∨c=59∨c=10∨c=35):∀ b∈Jp t x y,Cc c b=false:=by
 obtain⟨⟨t0,t1⟩,_,_⟩:=SG h;have hc':c=44∨c=32∨c=59∨c=10∨c=35:=.inr hc;have h44:Cc c 44=false:=by rcases hc with rfl|rfl|rfl|rfl<;>decide
 intro b hb;unfold Jp at hb;simp only[List.mem_append,List.mem_cons,List.not_mem_nil,or_false]at hb;rcases hb with hb|rfl|hb|rfl|rfl
 .exact KQ hc' (JM _ _ hb)
 .exact h44
 .exact KQ hc' (JM _ _ hb)
 .exact h44
 .exact KQ hc' (Zim t0 t1)
theorem Zqi(h:Zy f=true):∀ b∈f.Z00.data.toList,wd b:=by
 obtain⟨_,_,_,_,_,_,h⟩:=Q1 h;rcases h with h|h
 .exact kP h
 .exact kP h
theorem Zkk(h:Zy f=true):Yq (Cc 32) [] (EG f)=KB f.kind::ZV f.id ::((if f.kind=1 then []else [f.AL.data.toList])++[f.Z00.data.toList,Jp f.Af.turn f.Af.x f.Af.y,ZV f.Ao]):=by
 obtain⟨h1,h2,h3,h4,h5,h6,h7⟩:=Q1 h;unfold EG
 have tail:Yq (Cc 32) [] (f.Z00.data.toList++32 ::(Jp f.Af.turn f.Af.x f.Af.y++32::ZV f.Ao))=[f.Z00.data.toList,Jp f.Af.turn f.Af.x f.Af.y,ZV f.Ao]:=by
  rw[Qw (PZ 32) _ _ _ (SF s_ (Zqi h)),Qw (PZ 32) _ _ _ (ZcE h3 s_),kK _ _ (SF s_ (JM _))]
  rfl
 rw[Qw (PZ 32) _ _ _ (SF s_ (ZjF _)),Qw (PZ 32) _ _ _ (SF s_ (JM _))];by_cases hk:f.kind=1
 .rw[if_pos hk,show LJ f.kind f.AL=[]by unfold LJ;rw[if_pos hk]];simp only[List.nil_append];rw[tail]
 .rw[if_neg hk,show LJ f.kind f.AL=f.AL.data.toList++[32]by unfold LJ;rw[if_neg hk]];simp only[List.append_assoc,List.cons_append,List.nil_append];rw[Qw (PZ 32) _ _ _ (SF s_ (kP (h6 hk))),tail]
  rfl
theorem aG{s:ByteArray}(h:Ie s f)(hL:L.map (fun x=>x.data.toList)=Yq (Cc 32) [] s.data.toList):
  ((L.length=5/\f.kind=1/\f.AL=⟨#[]⟩)∨(L.length=6/\f.kind≠1/\L[2]? = some f.AL))/\(∃ w0,L[0]? = some w0/\w0.data.toList=KB f.kind)/\
  (∃ w1,L[1]? = some w1/\Ck w1=some f.id)/\L[L.length-3]? = some f.Z00/\(∃ w4,L[L.length-2]? = some w4/\J7 w4=some f.Af)/\∃ w5,L[L.length-1]? = some w5/\Ck w5=some f.Ao:=by
 rw[<- h.2,Zkk h.1]at hL;obtain⟨h1,h2,h3,h4,h5,h6,h7⟩:=Q1 h.1;have i1:=Y8.1 h1;have i2:=Y8.1 h2;have hp:KR ⟨(Jp f.Af.turn f.Af.x f.Af.y).toArray⟩ f.Af:=⟨h3,s_⟩;by_cases hk:f.kind=1
 .rw[if_pos hk]at hL
  have hf:f.AL=⟨#[]⟩:=by
   have:=h5 hk;rw[ByteArray.toList_eq]at this;exact Dh (by simpa using this)
  rcases L with _ |⟨a,_ |⟨b,_ |⟨c,_ |⟨d,_ |⟨e,_ |⟨g,L⟩⟩⟩⟩⟩⟩
  all_goals simp only[List.map_cons,List.map_nil,List.nil_append,List.cons.injEq,reduceCtorEq,and_false,and_true,List.nil_eq,List.cons_ne_nil]at hL
  obtain⟨e0,e1,e2,e3,e4⟩:=hL;have x3:d=⟨(Jp f.Af.turn f.Af.x f.Af.y).toArray⟩:=Dh (by rw[e3]);exact⟨.inl ⟨rfl,hk,hf⟩,⟨a,rfl,e0⟩,⟨b,rfl,Jo o_ o_ (Dh (by rw[e1];simp[Ya]))⟩,by simp;exact Dh e2,⟨d,rfl,by rw[x3];exact wC hp⟩,e,rfl,Jo o_ o_ (Dh (by rw[e4];simp[Ya]))⟩
 .rw[if_neg hk]at hL;rcases L with _ |⟨a,_ |⟨b,_ |⟨c,_ |⟨d,_ |⟨e,_ |⟨g,_ |⟨z,L⟩⟩⟩⟩⟩⟩⟩
  all_goals simp only[List.map_cons,List.map_nil,List.nil_append,List.cons_append,List.cons.injEq,reduceCtorEq,and_false,and_true,List.nil_eq,List.cons_ne_nil]at hL
  obtain⟨e0,e1,e2,e3,e4,e5⟩:=hL;have x3:e=⟨(Jp f.Af.turn f.Af.x f.Af.y).toArray⟩:=Dh (by rw[e4]);exact⟨.inr ⟨rfl,hk,by simp;exact Dh e2⟩,⟨a,rfl,e0⟩,⟨b,rfl,Jo o_ o_ (Dh (by rw[e1];simp[Ya]))⟩,by simp;exact Dh e3,⟨e,rfl,by rw[x3];exact wC hp⟩,g,rfl,Jo o_ o_ (Dh (by rw[e5];simp[Ya]))⟩
theorem Zkl{s:ByteArray}{g:A7}(h:Ie s f)(k:Ie s g):f=g:=by
 obtain⟨L,hL⟩:=wB s 32;obtain⟨a1,⟨w0,a2,a3⟩,⟨w1,a4,a5⟩,a6,⟨w4,a7,a8⟩,w5,a9,a10⟩:=aG h hL;obtain⟨b1,⟨v0,b2,b3⟩,⟨v1,b4,b5⟩,b6,⟨v4,b7,b8⟩,v5,b9,b10⟩:=aG k hL;rw[a2]at b2;rw[a4]at b4;rw[a6]at b6;rw[a7]at b7;rw[a9]at b9;simp only[Zi]at b2 b4 b6 b7 b9;subst b2 b4 b7 b9;rw[a5]at b5;rw[a8]at b8;rw[a10]at b10;simp only[Zi]at b5 b8 b10;have hk:=ZjH (Q1 h.1).2.2.2.1 (Q1 k.1).2.2.2.1 (a3.symm.trans b3)
 have hf:f.AL=g.AL:=by
  rcases a1 with⟨n1,_,r1⟩|⟨n1,_,r1⟩<;> rcases b1 with⟨n2,_,r2⟩|⟨n2,_,r2⟩
  .rw[r1,r2]
  .omega
  .omega
  .rw[r1]at r2;simpa using r2
 obtain⟨fi,fk,ff,ft,fp,fw⟩:=f;obtain⟨gi,gk,gf,gt,gp,gw⟩:=g;simp only at b5 b8 b10 b6 hk hf;rw[b5,b8,b10,b6,hk,hf]
noncomputable def Jf(s:ByteArray):Option A7:=the (Ie s)
theorem aH{s:ByteArray}{p:A7}(h:Ie s p):Jf s=some p:=kM (fun q hq=>Zkl hq h) h
theorem wE{s:ByteArray}(h:∀ p,¬ Ie s p):Jf s=none:=kN h
theorem kQ{s:ByteArray}{p:A7}(h:Jf s=some p):Ie s p:=vZ h
theorem Zdd{s:ByteArray}  :Ie s f↔Zy f=true/\YM f=s:=by
 constructor
 .intro h;refine⟨h.1,?_⟩;unfold YM;rw[if_pos h.1];exact Dh (by rw[<- h.2])
 .intro h;refine⟨h.1,?_⟩;have:=h.2;unfold YM at this;rw[if_pos h.1]at this;rw[<- this]
theorem cat(a b:ByteArray)(n m:Nat)(ha:a.size<=n)(hb:b.size<=m)(h:n+m<=1099511627776):∃ s:ByteArray,Hid (a++b=s)/\s.size<=n+m/\∀ w,(Op.stringOp .add a b).run prog w=.ok (.string s) w :=
 ⟨a++b,rfl,by rw[ByteArray.size_append];omega,NG o_⟩
theorem Y5{w:World}{cs:Array Value}{t:TypeId}{k:Nat}{v:Value}(h:cs[k]? = some v):(w.alloc (.cells cs t)).cell? ⟨w.heap.size,k,none⟩=some v:=by
 have e:(w.alloc (.cells cs t)).heap[w.heap.size]? = some (.cells cs t):=heap_alloc_new w _;unfold World.cell?;rw[e];exact h
end Go.Proofs.YtcnbphnnfmphlaaGreatDoor
