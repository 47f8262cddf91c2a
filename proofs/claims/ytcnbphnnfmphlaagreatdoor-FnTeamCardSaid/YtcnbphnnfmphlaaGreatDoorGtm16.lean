/- Texts of this proof. -/
import Derived.Test.YtcnbphnnfmphlaaGreatDoorGtm15
namespace Go.Proofs.YtcnbphnnfmphlaaGreatDoor
open Go.Calls renaming regrown_of → Zx
open Go.Lib renaming hid → Z5
open Nat renaming le_refl → Zd
open Go.Proofs.Tryz
open Go.RowKit
set_option linter.unusedVariables false
set_option linter.unusedSimpArgs false
set_option maxHeartbeats 1000000
set_option maxRecDepth 100000
theorem Z5O(x y:Int)(w:World)(hv:Yi 0 x y=true)(hT:Ct w):Calls prog 73 #[Qv 0 x y] w fun e w'=>e=.returned (.string (Yn 0 x y))/\Below w.heap.size w w':=by
 have HV:=Z5 hv;have HT:=Z5 hT;clear hT
 obtain⟨x0,x1,y0,y1⟩:-1000000<=x/\x<=1000000/\-1000000<=y/\y<=1000000:=by
  simp[Yi,Be]at hv;omega
 obtain⟨s2,e2,z2,c2⟩:=cat (Ya x) ⟨#[44]⟩ 21 1 (Y7 o_ o_) (Zd _) o_;obtain⟨s3,e3,z3,c3⟩:=cat s2 (Ya y) _ 21 z2 (Y7 o_ o_) o_;obtain⟨s4,e4,z4,c4⟩:=cat s3 ⟨#[44]⟩ _ 1 z3 (Zd _) o_;obtain⟨s5,e5,z5,c5⟩:=cat s4 ⟨#[Ic 0]⟩ _ 1 z4 (Zd _) o_
 have hfin:Hid (Yn 0 x y=s5):=by
  simp only[Hid,Yn,HV.out,if_true];rw[<- e5.out,<- e4.out,<- e3.out,<- e2.out];apply Dh;simp[Jp,Ya,ByteArray.data_append]
 have ht:(Ic 0)=101:=rfl;rw[ht]at c5;clear z2 z3 z4 z5 ht hv;go_enter func73,ntmps73;go_wp2_with (go_at_call 98;refine(Ym _ _ _ _).mono ?_;rw[HV.out];rintro e w1 ⟨rfl,hb1⟩;obtain⟨hc,hfz⟩:=Mf hb1);refine ZQ fun R hR=>?_
 have hwb:Below w.heap.size w R:=by rw[hR.out];exact Zg (Ze (Below.refl _ _) _) hb1
 have g0:=cell_regrown (show R.cell? ⟨w.heap.size,0,none⟩=some (.int .i64 0)by rw[hR.out];exact Zm hb1 (Y5 rfl));have g1:=cell_regrown (show R.cell? ⟨w.heap.size,1,none⟩=some (.int .i64 x)by rw[hR.out];exact Zm hb1 (Y5 rfl));have g2:=cell_regrown (show R.cell? ⟨w.heap.size,2,none⟩=some (.int .i64 y)by rw[hR.out];exact Zm hb1 (Y5 rfl));have tR:=(HT.out).below hwb;have cV:∀ d os,Calls prog 51 #[.int .i64 x] (Go.Sort.grow (redrawn R d) os) fun e w2=>e=.returned (.string (Ya x))/\∃ p:Regrown,w2=Go.Sort.grow (redrawn R p.d) p.os:=fun d os=>Zx (ZP x _ o_ o_ (tR.below (below_regrown R d os)))
 have cW:∀ d os,Calls prog 51 #[.int .i64 y] (Go.Sort.grow (redrawn R d) os) fun e w2=>e=.returned (.string (Ya y))/\∃ p:Regrown,w2=Go.Sort.grow (redrawn R p.d) p.os:=fun d os=>Zx (ZP y _ o_ o_ (tR.below (below_regrown R d os)))
 have hx:(ByteArray.mk #[101,110,119,115]).extract 0 1=⟨#[101]⟩:=by apply Dh;rfl
 clear hR hc hfz tR hb1;refine wp_region_quiet_below BC BC ?_;repeat(go_big_quiet_step (first|exact cV _ _|exact cW _ _))
 refine wpQuiet_nil ?_;intro _ hw;obtain⟨⟨dq,osq⟩,hw⟩:=hw;subst hw;have hbq:=Zg hwb (below_regrown R dq osq);clear g0 g1 g2 cV cW;go_wp2;go_ret;exact⟨by rw[hfin.out];rfl,hbq⟩
theorem Z5N(x y:Int)(w:World)(hv:Yi 1 x y=true)(hT:Ct w):Calls prog 73 #[Qv 1 x y] w fun e w'=>e=.returned (.string (Yn 1 x y))/\Below w.heap.size w w':=by
 have HV:=Z5 hv;have HT:=Z5 hT;clear hT
 obtain⟨x0,x1,y0,y1⟩:-1000000<=x/\x<=1000000/\-1000000<=y/\y<=1000000:=by
  simp[Yi,Be]at hv;omega
 obtain⟨s2,e2,z2,c2⟩:=cat (Ya x) ⟨#[44]⟩ 21 1 (Y7 o_ o_) (Zd _) o_;obtain⟨s3,e3,z3,c3⟩:=cat s2 (Ya y) _ 21 z2 (Y7 o_ o_) o_;obtain⟨s4,e4,z4,c4⟩:=cat s3 ⟨#[44]⟩ _ 1 z3 (Zd _) o_;obtain⟨s5,e5,z5,c5⟩:=cat s4 ⟨#[Ic 1]⟩ _ 1 z4 (Zd _) o_
 have hfin:Hid (Yn 1 x y=s5):=by
  simp only[Hid,Yn,HV.out,if_true];rw[<- e5.out,<- e4.out,<- e3.out,<- e2.out];apply Dh;simp[Jp,Ya,ByteArray.data_append]
 have ht:(Ic 1)=110:=rfl;rw[ht]at c5;clear z2 z3 z4 z5 ht hv;go_enter func73,ntmps73;go_wp2_with (go_at_call 98;refine(Ym _ _ _ _).mono ?_;rw[HV.out];rintro e w1 ⟨rfl,hb1⟩;obtain⟨hc,hfz⟩:=Mf hb1);refine ZQ fun R hR=>?_
 have hwb:Below w.heap.size w R:=by rw[hR.out];exact Zg (Ze (Below.refl _ _) _) hb1
 have g0:=cell_regrown (show R.cell? ⟨w.heap.size,0,none⟩=some (.int .i64 1)by rw[hR.out];exact Zm hb1 (Y5 rfl));have g1:=cell_regrown (show R.cell? ⟨w.heap.size,1,none⟩=some (.int .i64 x)by rw[hR.out];exact Zm hb1 (Y5 rfl));have g2:=cell_regrown (show R.cell? ⟨w.heap.size,2,none⟩=some (.int .i64 y)by rw[hR.out];exact Zm hb1 (Y5 rfl));have tR:=(HT.out).below hwb;have cV:∀ d os,Calls prog 51 #[.int .i64 x] (Go.Sort.grow (redrawn R d) os) fun e w2=>e=.returned (.string (Ya x))/\∃ p:Regrown,w2=Go.Sort.grow (redrawn R p.d) p.os:=fun d os=>Zx (ZP x _ o_ o_ (tR.below (below_regrown R d os)))
 have cW:∀ d os,Calls prog 51 #[.int .i64 y] (Go.Sort.grow (redrawn R d) os) fun e w2=>e=.returned (.string (Ya y))/\∃ p:Regrown,w2=Go.Sort.grow (redrawn R p.d) p.os:=fun d os=>Zx (ZP y _ o_ o_ (tR.below (below_regrown R d os)))
 have hx:(ByteArray.mk #[101,110,119,115]).extract 1 2=⟨#[110]⟩:=by apply Dh;rfl
 clear hR hc hfz tR hb1;refine wp_region_quiet_below BC BC ?_;repeat(go_big_quiet_step (first|exact cV _ _|exact cW _ _))
 refine wpQuiet_nil ?_;intro _ hw;obtain⟨⟨dq,osq⟩,hw⟩:=hw;subst hw;have hbq:=Zg hwb (below_regrown R dq osq);clear g0 g1 g2 cV cW;go_wp2;go_ret;exact⟨by rw[hfin.out];rfl,hbq⟩
theorem Z5M(x y:Int)(w:World)(hv:Yi 2 x y=true)(hT:Ct w):Calls prog 73 #[Qv 2 x y] w fun e w'=>e=.returned (.string (Yn 2 x y))/\Below w.heap.size w w':=by
 have HV:=Z5 hv;have HT:=Z5 hT;clear hT
 obtain⟨x0,x1,y0,y1⟩:-1000000<=x/\x<=1000000/\-1000000<=y/\y<=1000000:=by
  simp[Yi,Be]at hv;omega
 obtain⟨s2,e2,z2,c2⟩:=cat (Ya x) ⟨#[44]⟩ 21 1 (Y7 o_ o_) (Zd _) o_;obtain⟨s3,e3,z3,c3⟩:=cat s2 (Ya y) _ 21 z2 (Y7 o_ o_) o_;obtain⟨s4,e4,z4,c4⟩:=cat s3 ⟨#[44]⟩ _ 1 z3 (Zd _) o_;obtain⟨s5,e5,z5,c5⟩:=cat s4 ⟨#[Ic 2]⟩ _ 1 z4 (Zd _) o_
 have hfin:Hid (Yn 2 x y=s5):=by
  simp only[Hid,Yn,HV.out,if_true];rw[<- e5.out,<- e4.out,<- e3.out,<- e2.out];apply Dh;simp[Jp,Ya,ByteArray.data_append]
 have ht:(Ic 2)=119:=rfl;rw[ht]at c5;clear z2 z3 z4 z5 ht hv;go_enter func73,ntmps73;go_wp2_with (go_at_call 98;refine(Ym _ _ _ _).mono ?_;rw[HV.out];rintro e w1 ⟨rfl,hb1⟩;obtain⟨hc,hfz⟩:=Mf hb1);refine ZQ fun R hR=>?_
 have hwb:Below w.heap.size w R:=by rw[hR.out];exact Zg (Ze (Below.refl _ _) _) hb1
 have g0:=cell_regrown (show R.cell? ⟨w.heap.size,0,none⟩=some (.int .i64 2)by rw[hR.out];exact Zm hb1 (Y5 rfl));have g1:=cell_regrown (show R.cell? ⟨w.heap.size,1,none⟩=some (.int .i64 x)by rw[hR.out];exact Zm hb1 (Y5 rfl));have g2:=cell_regrown (show R.cell? ⟨w.heap.size,2,none⟩=some (.int .i64 y)by rw[hR.out];exact Zm hb1 (Y5 rfl));have tR:=(HT.out).below hwb;have cV:∀ d os,Calls prog 51 #[.int .i64 x] (Go.Sort.grow (redrawn R d) os) fun e w2=>e=.returned (.string (Ya x))/\∃ p:Regrown,w2=Go.Sort.grow (redrawn R p.d) p.os:=fun d os=>Zx (ZP x _ o_ o_ (tR.below (below_regrown R d os)))
 have cW:∀ d os,Calls prog 51 #[.int .i64 y] (Go.Sort.grow (redrawn R d) os) fun e w2=>e=.returned (.string (Ya y))/\∃ p:Regrown,w2=Go.Sort.grow (redrawn R p.d) p.os:=fun d os=>Zx (ZP y _ o_ o_ (tR.below (below_regrown R d os)))
 have hx:(ByteArray.mk #[101,110,119,115]).extract 2 3=⟨#[119]⟩:=by apply Dh;rfl
 clear hR hc hfz tR hb1;refine wp_region_quiet_below BC BC ?_;repeat(go_big_quiet_step (first|exact cV _ _|exact cW _ _))
 refine wpQuiet_nil ?_;intro _ hw;obtain⟨⟨dq,osq⟩,hw⟩:=hw;subst hw;have hbq:=Zg hwb (below_regrown R dq osq);clear g0 g1 g2 cV cW;go_wp2;go_ret;exact⟨by rw[hfin.out];rfl,hbq⟩
theorem Z5L(x y:Int)(w:World)(hv:Yi 3 x y=true)(hT:Ct w):Calls prog 73 #[Qv 3 x y] w fun e w'=>e=.returned (.string (Yn 3 x y))/\Below w.heap.size w w':=by
 have HV:=Z5 hv;have HT:=Z5 hT;clear hT
 obtain⟨x0,x1,y0,y1⟩:-1000000<=x/\x<=1000000/\-1000000<=y/\y<=1000000:=by
  simp[Yi,Be]at hv;omega
 obtain⟨s2,e2,z2,c2⟩:=cat (Ya x) ⟨#[44]⟩ 21 1 (Y7 o_ o_) (Zd _) o_;obtain⟨s3,e3,z3,c3⟩:=cat s2 (Ya y) _ 21 z2 (Y7 o_ o_) o_;obtain⟨s4,e4,z4,c4⟩:=cat s3 ⟨#[44]⟩ _ 1 z3 (Zd _) o_;obtain⟨s5,e5,z5,c5⟩:=cat s4 ⟨#[Ic 3]⟩ _ 1 z4 (Zd _) o_
 have hfin:Hid (Yn 3 x y=s5):=by
  simp only[Hid,Yn,HV.out,if_true];rw[<- e5.out,<- e4.out,<- e3.out,<- e2.out];apply Dh;simp[Jp,Ya,ByteArray.data_append]
 have ht:(Ic 3)=115:=rfl;rw[ht]at c5;clear z2 z3 z4 z5 ht hv;go_enter func73,ntmps73;go_wp2_with (go_at_call 98;refine(Ym _ _ _ _).mono ?_;rw[HV.out];rintro e w1 ⟨rfl,hb1⟩;obtain⟨hc,hfz⟩:=Mf hb1);refine ZQ fun R hR=>?_
 have hwb:Below w.heap.size w R:=by rw[hR.out];exact Zg (Ze (Below.refl _ _) _) hb1
 have g0:=cell_regrown (show R.cell? ⟨w.heap.size,0,none⟩=some (.int .i64 3)by rw[hR.out];exact Zm hb1 (Y5 rfl));have g1:=cell_regrown (show R.cell? ⟨w.heap.size,1,none⟩=some (.int .i64 x)by rw[hR.out];exact Zm hb1 (Y5 rfl));have g2:=cell_regrown (show R.cell? ⟨w.heap.size,2,none⟩=some (.int .i64 y)by rw[hR.out];exact Zm hb1 (Y5 rfl));have tR:=(HT.out).below hwb;have cV:∀ d os,Calls prog 51 #[.int .i64 x] (Go.Sort.grow (redrawn R d) os) fun e w2=>e=.returned (.string (Ya x))/\∃ p:Regrown,w2=Go.Sort.grow (redrawn R p.d) p.os:=fun d os=>Zx (ZP x _ o_ o_ (tR.below (below_regrown R d os)))
 have cW:∀ d os,Calls prog 51 #[.int .i64 y] (Go.Sort.grow (redrawn R d) os) fun e w2=>e=.returned (.string (Ya y))/\∃ p:Regrown,w2=Go.Sort.grow (redrawn R p.d) p.os:=fun d os=>Zx (ZP y _ o_ o_ (tR.below (below_regrown R d os)))
 have hx:(ByteArray.mk #[101,110,119,115]).extract 3 4=⟨#[115]⟩:=by apply Dh;rfl
 clear hR hc hfz tR hb1;refine wp_region_quiet_below BC BC ?_;repeat(go_big_quiet_step (first|exact cV _ _|exact cW _ _))
 refine wpQuiet_nil ?_;intro _ hw;obtain⟨⟨dq,osq⟩,hw⟩:=hw;subst hw;have hbq:=Zg hwb (below_regrown R dq osq);clear g0 g1 g2 cV cW;go_wp2;go_ret;exact⟨by rw[hfin.out];rfl,hbq⟩
theorem Qa(t x y:Int)(w:World)(hT:Ct w):Calls prog 73 #[Qv t x y] w fun e w'=>e=.returned (.string (Yn t x y))/\Below w.heap.size w w':=by
 cases hv:Yi t x y
 .have hfin:Hid (Yn t x y=⟨#[]⟩):=by simp[Hid,Yn,hv]
  have HV:=Z5 hv;clear hv;go_enter func73,ntmps73;go_wp2_with (go_at_call 98;refine(Ym _ _ _ _).mono ?_;rw[HV.out];rintro e w1 ⟨rfl,hb1⟩;obtain⟨hc,hfz⟩:=Mf hb1);go_ret;exact⟨by rw[hfin.out];rfl,Zg (Ze (Below.refl _ _) _) hb1⟩
 .obtain⟨t0,t1⟩:0<=t/\t<=3:=by
   simp[Yi,Be]at hv;omega
  obtain rfl|rfl|rfl|rfl:t=0∨t=1∨t=2∨t=3:=by omega
  .exact Z5O x y w hv hT
  .exact Z5N x y w hv hT
  .exact Z5M x y w hv hT
  .exact Z5L x y w hv hT
end Go.Proofs.YtcnbphnnfmphlaaGreatDoor
