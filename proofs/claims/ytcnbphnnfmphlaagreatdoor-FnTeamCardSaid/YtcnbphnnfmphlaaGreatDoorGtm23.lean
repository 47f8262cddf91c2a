/- Texts of this proof. -/
import Derived.Test.YtcnbphnnfmphlaaGreatDoorGtm15
namespace Go.Proofs.YtcnbphnnfmphlaaGreatDoor
open Go.Calls renaming regrown_of → Zx
open Go.Proofs.Tryz
open Go.RowKit
set_option linter.unusedVariables false
set_option linter.unusedSimpArgs false
set_option maxHeartbeats 1000000
set_option maxRecDepth 100000
theorem Jn(num:Int)(tx:ByteArray)(sum:Int)(w:World)(h0:-9223372036854775808<=num)(h1:num<=9223372036854775807)(ht:tx.size<=4194304)(hT:Ct w):
  Calls prog 105 #[Nz false num tx sum] w fun e w'=>e=LA (Xd num tx false)/\Below w.heap.size w w':=by
 have HT:=Lib.hid hT;clear hT;obtain⟨s0,e0,z0,c0⟩:=cat (Ya num) ⟨#[32]⟩ 21 1 (Y7 h0 h1) AO o_;obtain⟨s1,e1,z1,c1⟩:=cat s0 tx 22 4194304 z0 ht o_
 have hfin:Hid (Xd num tx false=LD s1):=by
  unfold Hid Xd;congr 1;rw[<- e1.out,<- e0.out];apply Dh;simp[rD,Ya,ByteArray.data_append]
 go_enter func105,ntmps105;go_wp2_with fail;refine ZQ fun R hR=>?_
 have hwb:Below w.heap.size w R:=by rw[hR.out];exact Ze (Below.refl _ _) _
 have g0:=cell_regrown (show R.cell? ⟨w.heap.size,0,none⟩=some (.bool false)by rw[hR.out];exact Y5 rfl);have g1:=cell_regrown (show R.cell? ⟨w.heap.size,1,none⟩=some (.int .i64 num)by rw[hR.out];exact Y5 rfl);have g2:=cell_regrown (show R.cell? ⟨w.heap.size,2,none⟩=some (.string tx)by rw[hR.out];exact Y5 rfl);have g3:=cell_regrown (show R.cell? ⟨w.heap.size,3,none⟩=some (.int .i64 sum)by rw[hR.out];exact Y5 rfl);have tR:=(HT.out).below hwb;have cV:∀ d os,Calls prog 51 #[.int .i64 num] (Go.Sort.grow (redrawn R d) os) fun e w2=>e=.returned (.string (Ya num))/\∃ p:Regrown,w2=Go.Sort.grow (redrawn R p.d) p.os:=fun d os=>Zx (ZP num _ h0 h1 (tR.below (below_regrown R d os)))
 clear hR tR;refine wp_region_quiet_below BC BC ?_;repeat(go_big_quiet_step (first|exact cV _ _))
 refine wpQuiet_nil ?_;intro _ hw;obtain⟨⟨dq,osq⟩,hw⟩:=hw;subst hw;have hbq:=Zg hwb (below_regrown R dq osq);have k0:=g0 dq osq;clear g1 g2 g3 g0 cV;go_wp2_with (go_at_call 70;refine(XB _ _ o_).mono ?_;rintro e w1 ⟨rfl,rfl⟩);go_ret;exact⟨by rw[hfin.out];rfl,hbq⟩
theorem JQ(num:Int)(tx:ByteArray)(sum:Int)(w:World)(h0:-9223372036854775808<=num)(h1:num<=9223372036854775807)(ht:tx.size<=4194304)(hT:Ct w):
  Calls prog 105 #[Nz true num tx sum] w fun e w'=>e=LA (Xd num tx true)/\Below w.heap.size w w':=by
 have HT:=Lib.hid hT;clear hT;obtain⟨s0,e0,z0,c0⟩:=cat (Ya num) ⟨#[32]⟩ 21 1 (Y7 h0 h1) AO o_;obtain⟨s1,e1,z1,c1⟩:=cat s0 tx 22 4194304 z0 ht o_;obtain⟨s2,e2,z2,c2⟩:=cat s1 ⟨#[32,97,99,107]⟩ (22+4194304) 4 z1 AO o_
 have hfin:Hid (Xd num tx true=LD s2):=by
  unfold Hid Xd;congr 1;rw[<- e2.out,<- e1.out,<- e0.out];apply Dh;simp[rD,Ya,ByteArray.data_append]
 go_enter func105,ntmps105;go_wp2_with fail;refine ZQ fun R hR=>?_
 have hwb:Below w.heap.size w R:=by rw[hR.out];exact Ze (Below.refl _ _) _
 have g0:=cell_regrown (show R.cell? ⟨w.heap.size,0,none⟩=some (.bool true)by rw[hR.out];exact Y5 rfl);have g1:=cell_regrown (show R.cell? ⟨w.heap.size,1,none⟩=some (.int .i64 num)by rw[hR.out];exact Y5 rfl);have g2:=cell_regrown (show R.cell? ⟨w.heap.size,2,none⟩=some (.string tx)by rw[hR.out];exact Y5 rfl);have g3:=cell_regrown (show R.cell? ⟨w.heap.size,3,none⟩=some (.int .i64 sum)by rw[hR.out];exact Y5 rfl);have tR:=(HT.out).below hwb;have cV:∀ d os,Calls prog 51 #[.int .i64 num] (Go.Sort.grow (redrawn R d) os) fun e w2=>e=.returned (.string (Ya num))/\∃ p:Regrown,w2=Go.Sort.grow (redrawn R p.d) p.os:=fun d os=>Zx (ZP num _ h0 h1 (tR.below (below_regrown R d os)))
 clear hR tR;refine wp_region_quiet_below BC BC ?_;repeat(go_big_quiet_step (first|exact cV _ _))
 refine wpQuiet_nil ?_;intro _ hw;obtain⟨⟨dq,osq⟩,hw⟩:=hw;subst hw;have hbq:=Zg hwb (below_regrown R dq osq);have k0:=g0 dq osq;clear g1 g2 g3 g0 cV;go_wp2_with (go_at_call 70;refine(XB _ _ o_).mono ?_;rintro e w1 ⟨rfl,rfl⟩);go_ret;exact⟨by rw[hfin.out];rfl,hbq⟩
theorem Z6R(Cr:Bool)(num:Int)(tx:ByteArray)(sum:Int)(w:World)(h0:-9223372036854775808<=num)(h1:num<=9223372036854775807)(ht:tx.size<=4194304)(hT:Ct w):
  Calls prog 105 #[Nz Cr num tx sum] w fun e w'=>e=LA (Xd num tx Cr)/\Below w.heap.size w w':=by
 cases Cr
 .exact Jn num tx sum w h0 h1 ht hT
 .exact JQ num tx sum w h0 h1 ht hT
theorem Z1Z(Cr:Bool)(num:Int)(tx:ByteArray)(sum:Int)(w:World)(h0:-9223372036854775808<=num)(h1:num<=9223372036854775807)(ht:tx.size<=4194304)(hT:Ct w):
  Calls prog 107 #[Nz Cr num tx sum] w fun e w'=>e=QM (sum == Xd num tx Cr)/\Below w.heap.size w w':=by
 have HT:=Lib.hid hT;clear hT;generalize hs:Xd num tx Cr=S;have HS:=Lib.hid hs;clear hs;go_enter func107,ntmps107;go_wp2_with fail;refine ZQ fun R hR=>?_
 have hwb:Below w.heap.size w R:=by rw[hR.out];exact Ze (Below.refl _ _) _
 have g0:=cell_regrown (show R.cell? ⟨w.heap.size,0,none⟩=some (.bool Cr)by rw[hR.out];exact Y5 rfl);have g1:=cell_regrown (show R.cell? ⟨w.heap.size,1,none⟩=some (.int .i64 num)by rw[hR.out];exact Y5 rfl);have g2:=cell_regrown (show R.cell? ⟨w.heap.size,2,none⟩=some (.string tx)by rw[hR.out];exact Y5 rfl);have g3:=cell_regrown (show R.cell? ⟨w.heap.size,3,none⟩=some (.int .i64 sum)by rw[hR.out];exact Y5 rfl);have tR:=(HT.out).below hwb;have cV:∀ d os,Calls prog 105 #[Nz Cr num tx sum] (Go.Sort.grow (redrawn R d) os) fun e w2=>e=LA S/\∃ p:Regrown,w2=Go.Sort.grow (redrawn R p.d) p.os:=fun d os=>Zx (by rw[<- HS.out];exact Z6R Cr num tx sum _ h0 h1 ht (tR.below (below_regrown R d os)))
 clear hR tR;refine wp_region_quiet_below BC BC ?_;repeat(go_big_quiet_step (first|exact cV _ _))
 refine wpQuiet_nil ?_;intro _ hw;obtain⟨⟨dq,osq⟩,hw⟩:=hw;subst hw;have hbq:=Zg hwb (below_regrown R dq osq);clear g0 g1 g2 g3 cV;go_wp2;go_ret;exact⟨rfl,hbq⟩
end Go.Proofs.YtcnbphnnfmphlaaGreatDoor
