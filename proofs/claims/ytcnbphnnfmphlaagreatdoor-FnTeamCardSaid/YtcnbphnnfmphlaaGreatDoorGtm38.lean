/- Texts of this proof. -/
import Derived.Test.YtcnbphnnfmphlaaGreatDoorGtm37
namespace Go.Proofs.YtcnbphnnfmphlaaGreatDoor
open Go.Calls renaming mono → Zb
open Go.Lib renaming hid → Z5
open Go.Proofs.Tryz
open Go.RowKit
set_option linter.unusedVariables false
set_option linter.unusedSimpArgs false
set_option maxHeartbeats 4000000
set_option maxRecDepth 100000
theorem ZjA{W:World}{A:Option Addr}{n c:Nat}{w:World}(hB:Below W.heap.size W w)(hy:Bytes W A n)(hn:n<=4194304)(m:Nat)(hm:m<=1000):
  Calls prog 5 #[.slice A n c,.int .i64 (m:Int)] w fun e w'=>∃ x,e=LA x/\0<=x/\x<=65535/\Below w.heap.size w w':=by
 have hy':=Z5 hy;have HB:=Z5 hB;clear hy hB;go_enter func5,ntmps5;go_wp2_with fail;refine Zb (ZfH (c:=c) HB.out hy'.out hn m o_) ?_;rintro e w1 ⟨b,rfl,hb,hc1,hb1⟩;have HC:=Z5 hc1;clear hc1;go_wp2_with fail;refine Zb (iU hy'.out hn HC.out) ?_;rintro e w2 ⟨x,rfl,hx0,hx1,hc2,hu2⟩;have Sd:=Z5 hc2;clear hc2;go_wp2_with fail;refine Zb (iU hy'.out hn Sd.out) ?_;rintro e w3 ⟨y,rfl,hy0,hy1,hc3,hu3⟩;go_wp2;go_ret;exact⟨_,rfl,o_,o_,PK (PK hb1 hu2 hb) hu3 hb⟩
theorem Zhg(n:Nat)(h1:1<=n)(h3:n<=3)(w:World):Calls prog 6 #[.int .i64 (n:Int)] w fun e w'=>∃ v',e=.returned (.tuple #[QL v',.bool true])/\Dt w' v' ⟨List.replicate n SE,List.replicate n (LV n)⟩/\Ag w.heap.size w' (Cb v')/\Below w.heap.size w w':=by
 have h:=Z9v n w (FW _ o_ o_);rw[Z8f (Y8.2 o_)]at h;exact h
theorem Dt.rnT{w:World}{v:TV}{t:Ak}(h:Dt w v t):t.Ad.length=v.r.n:=by
 obtain⟨css,Bb,h1,h3⟩:=h.rd.r;have h4:=h3.lens;have h5:=h1.1;omega
theorem Zl9(W:World)(A:Option Addr)(n c:Nat)(hm:n<=maxLen)(hy:Bytes W A n)(hT:Ed W):
  Calls prog 3 #[.slice A n c] W fun e w'=>e=QM true/\Below W.heap.size W w':=by
 by_cases hn:n<=1048576;rotate_left
 .have hn':(1048576:Int)<(n:Int):=by omega
  go_enter func3,ntmps3;go_wp2;go_ret;exact⟨rfl,Below.refl _ _⟩
 have hn':decide ((1048576:Int)<(n:Int))=false:=by simp;omega
 have hy':=Z5 hy;have HT:=Z5 hT;clear hy hm hT;go_enter func3,ntmps3;go_wp2_with fail;refine Zb (ZbZ (W:=W) (c:=c) (Below.refl _ _) hy'.out o_) ?_;rintro e w1 ⟨v,l,rfl,h8,hg,ho,hf,hb1⟩;have GK:=Z5 hg;have HRD:=Z5 ho.rd;have hlen:l.length=v.n:=ho.rd.len;have Ta:v.n<=8:=by omega
 clear hg ho hf;obtain⟨A0,n0,c0⟩:=v;dsimp only at hlen Ta HRD;have LEN:=Z5 hlen;clear hlen h8;have hz1:=hb1.size;have HB1:=Z5 hb1;go_wp2_with fail;refine Zb (ZjA (c:=c) (W:=W) HB1.out hy'.out o_ 1 o_) ?_;rintro e w2 ⟨x1,rfl,hx0,hx1,hb2⟩;obtain⟨nn,hnn,hn2,FX⟩:∃ nn:Nat,2+x1 % 2=(nn:Int)/\2<=nn/\nn<=3:=⟨(2+x1 % 2).toNat,o_,o_,o_⟩;have hw0:IntKind.i64.wrap (2+x1 % 2)=(nn:Int):=by rw[IntKind.wrap_i64];omega
 have HB2:=Z5 (Zg HB1.out hb2);have Z1x:=Z5 hb2;clear hb2 hb1 HB1;go_wp2_with fail;refine Zb (Zhg nn o_ FX _) ?_;rintro e w3 ⟨vt,rfl,hot,hft,hb3⟩;have hz3:=hb3.size;have HOT:=Z5 hot;have HFT:=Z5 hft;have HB3:=Z5 (Zg HB2.out hb3);clear hot hft;go_wp2_with fail;go_loopw [35] (fun iv wr=>∃ (k:Nat) (F:List A7) (t:Ak) (v':TV),k<=n0/\iv=.int .i64 (k:Int)/\TI F k k nn t/\SJ F k nn t/\He nn k F/\Dt wr v' t/\w3.heap.size ∉ Cb v'/\BO wr w3.heap.size (.slice v'.r.A v'.r.n v'.r.c) (.slice v'.c.A v'.c.n v'.c.c)/\Below w2.heap.size w2 wr) (fun iv _=>n0-(intOf iv).toNat)
 case atStart=>exact⟨0,[],_,vt,Nat.zero_le _,rfl,Zna o_ FX,Znc,He.nil nn,HOT.out.below (Ze (Below.refl _ _) _),fun hm=>by have:=HFT.out.hi _ hm;omega,BO.new _ _ _ _,Ze hb3 _⟩
 case round =>
  obtain⟨k,F,t,v',hk,rfl,hti,hsj,hfp,hot,hnb,hbx,hbr⟩:=hrel;have HO:=Z5 hot;have Uf:=Z5 hbr;have hbl:=hbx.lt;have HX:=Z5 hbx;have K6:=hbx.c0;have K7:=hbx.c1;have Kz:=hbx.fz;have hzr:=hbr.size;clear hot HOT HFT hbx;by_cases hlt:k<n0
  .have hki:(k:Int)<(n0:Int):=by omega
   obtain⟨f0,g,off,hx,rfl,g0,g1,g2,g3,g4,g5,g6,g7⟩:=Cy.at_ (Row.below (Row.below HRD.out Z1x.out) hbr) hlt;have hkn:((k:Int) % nn)=((k % nn:Nat):Int):=by simp
   have Z7u:(((k:Int)+1) % nn)=(((k+1) % nn:Nat):Int):=by simp
   have HKT:=Z5 (show((k:Int)).tmod nn=((k % nn:Nat):Int)by rw[Int.tmod_eq_emod_of_nonneg o_];simp);have Z1y:=Z5 (show(((k:Int)+1)).tmod nn=(((k+1) % nn:Nat):Int)by rw[Int.tmod_eq_emod_of_nonneg o_];simp);have ma:=Nat.mod_lt k (show nn > 0 by omega);have mb:=Nat.mod_lt (k+1) (show nn > 0 by omega);have LQ:=(GK.out.2.1 f0 (List.mem_of_getElem? hx)).aC (x:=1000 *((k % nn:Nat):Int)+k) o_ o_;obtain⟨fi,fk,ff,ft,⟨pt,px,py⟩,fw⟩:=f0;dsimp only at g0 g1 g2 g3 g4 g5 g6 g7 LQ;obtain⟨q1,q2,q3,q4,q5,u,hu,q6,q7,q8⟩:=Zqt (f:=⟨1000 *((k % nn:Nat):Int)+k,fk,ff,ft,⟨pt,px,py⟩,fw⟩) hn2 FX o_ hfp hti hsj LQ rfl;generalize k % nn=a at *
   generalize (k+1) % nn=b at *
   have wk:(Lit.int .i64 (a:Int)).wf=true:=FW _ o_ o_;have wk2:(Lit.int .i64 (b:Int)).wf=true:=FW _ o_ o_;have hMe:=fun(wx:World) (h:Dt wx v' t) (hT:Ed wx)=>Z9w v' t (a:Int) ⟨1000 *(a:Int)+k,fk,ff,ft,⟨pt,px,py⟩,fw⟩ wx q1 q2 h wk q3 q4 hT
   rw[hu]at hMe;have hM1:=fun(wx:World) (vx:TV) (mv at_:Int) (r1:-9223372036854775808<=mv) (r2:mv<=9223372036854775807) (r3:-9223372036854775808<=at_) (r4:at_<=9223372036854775807) (h:Dt wx vx u) (hT:Ed wx)=>Z8z vx u (a:Int) (b:Int) mv at_ wx q6 q7 h.rd wk wk2 (FW _ r1 r2) (FW _ r3 r4) hT
   have mG:=Z5 hMe;have HM1:=Z5 hM1;have HP:=Z5 q5;have HTI:=Z5 q8;have Z7v:IntKind.i64.wrap (1000 *(a:Int))=1000 *(a:Int):=by rw[IntKind.wrap_i64];omega
   have hwr2:IntKind.i64.wrap (1000 *(a:Int)+k)=1000 *(a:Int)+k:=by rw[IntKind.wrap_i64];omega
   have Z7w:IntKind.i64.wrap ((k:Int)+1)=(k:Int)+1:=by rw[IntKind.wrap_i64];omega
   have hnz:¬((nn:Int)=0):=by omega
   have Z7x:¬(nn=0):=by omega
   clear LQ hx hu q1 q2 q3 q4 q5 q6 q7 q8 hMe hM1 hti hsj hfp;have hwl:=(Zg HB2.out Uf.out).size;go_wp2_with fail;refine ZQ fun R hW=>?_
   have hwb:Below wr.heap.size wr R:=by rw[hW.out];exact JD
   have c0:=Zm hwb K6;have c1:=Zm hwb K7;have f0:R.cell? ⟨wr.heap.size,0,none⟩=some (.int .i64 (1000 *(a:Int)+k)):=by rw[hW.out];simp
   have f1:R.cell? ⟨wr.heap.size,1,none⟩=some (.int .i64 fk):=by rw[hW.out];simp
   have f2:R.cell? ⟨wr.heap.size,2,none⟩=some (.string ff):=by rw[hW.out];simp
   have f3:R.cell? ⟨wr.heap.size,3,none⟩=some (.string ft):=by rw[hW.out];simp
   have f4:R.cell? ⟨wr.heap.size,4,none⟩=some (.int .i64 pt):=by rw[hW.out];simp
   have f5:R.cell? ⟨wr.heap.size,5,none⟩=some (.int .i64 px):=by rw[hW.out];simp
   have f6:R.cell? ⟨wr.heap.size,6,none⟩=some (.int .i64 py):=by rw[hW.out];simp
   have f7:R.cell? ⟨wr.heap.size,7,none⟩=some (.int .i64 fw):=by rw[hW.out];simp
   have hzR:=hwb.size;have hRl:wr.heap.size<R.heap.size:=Y6 f0;have gG:=Z5 (HO.out.below hwb);have HTR:=Z5 (HT.out.below (Zg (Zg HB2.out Uf.out) hwb));clear K6 K7 Kz g0 g1 g2 g3 g4 g5 g6 g7 hW;go_cut [9,10] (fun sp sq wc=>∃ (bx:Nat) (v:TV),sp=.pointer (some ⟨bx,0,none⟩)/\sq=.bool true/\MU R wc bx v u)
   case first =>
    go_region_held3 (fun w'=>w'.cell? ⟨w3.heap.size,0,none⟩=some (.slice v'.r.A v'.r.n v'.r.c)/\w'.cell? ⟨w3.heap.size,1,none⟩=some (.slice v'.c.A v'.c.n v'.c.c)/\w'.cell? ⟨wr.heap.size,0,none⟩=some (.int .i64 (1000 *(a:Int)+k))/\w'.cell? ⟨wr.heap.size,1,none⟩=some (.int .i64 fk)/\w'.cell? ⟨wr.heap.size,2,none⟩=some (.string ff)/\w'.cell? ⟨wr.heap.size,3,none⟩=some (.string ft)/\w'.cell? ⟨wr.heap.size,4,none⟩=some (.int .i64 pt)/\w'.cell? ⟨wr.heap.size,5,none⟩=some (.int .i64 px)/\w'.cell? ⟨wr.heap.size,6,none⟩=some (.int .i64 py)/\w'.cell? ⟨wr.heap.size,7,none⟩=some (.int .i64 fw)) ((go_split_ands;(repeat' apply And.intro)<;>(exact Zm (show Below R.heap.size R _ from(by repeat(first|with_reducible exact hR4|with_reducible exact Below.refl _ _|with_reducible refine Ze ?_ _|with_reducible refine ZY ?_|with_reducible refine Dp ?_ (by first|exact Nat.le_refl _ |(dsimp only;omega)) _))) (by assumption)))) ((first |(go_at_call 7;rw[HKT.out];refine(mG.out _ (gG.out.below JD) (HTR.out.below JD)).mono ?_;rintro e w4 ⟨v2,rfl,ho2,hf2,hb4⟩;have ho2:=ho2;have hf2:=hf2;have hR4:=Zg (show Below R.heap.size R _ from JD) hb4;have Z7y:=hb4.size;have Ux:=hR4.size;(first|with_reducible have zb:=(BO.new _ _ _ _).below hb4|with_reducible have zb:=(BO.new _ _ _ _).drew.below hb4|skip);(first |(have K6:=zb.c0;have K7:=zb.c1;have Kz:=zb.fz;have zbl:=zb.lt)| skip))| fail));all_goals go_wp2_with fail
    all_goals go_meet
    all_goals (refine⟨_,v2,rfl,rfl,?_⟩;first|exact ZeW JD hb4 (by first|omega |(simp;done)|(simp;omega)) (by first|omega |(simp;done)|(simp;omega)) ho2 hf2 zb|exact ZhS _ JD hb4 ho2 hf2)
   case rest =>
   obtain⟨bx,v2,rfl,rfl,hF⟩:=hcut;obtain⟨wm,jW⟩:∃ x:World,x=wc:=⟨wc,rfl⟩;subst jW;have H3:=Z5 (Zg hwb hF.below);have HX3:=Z5 (HX.out.below H3.out);have UT:=Z5 hF.ow;have Ux:=H3.out.size;have HXb:=Z5 hF.x;have hlb:=hF.x.lt;have hlo:=hF.lo;clear c0 c1 f0 f1 f2 f3 f4 f5 f6 f7 hF;go_wp2_with fail;refine Zb (ZhR (c:=c) (W:=W) (Zg (Zg HB2.out Uf.out) H3.out) hy'.out o_ k o_) ?_;rintro e wn ⟨mv,at_,rfl,r1,r2,r3,r4,hb5⟩;have hn0:=(HXb.out.below hb5).c0;have hn1:=(HXb.out.below hb5).c1;have K8:=Z5 (HX3.out.below hb5);have hz5:=hb5.size;have K6:=K8.out.c0;have K7:=K8.out.c1;have Kz:=K8.out.fz;have Z7z:=K8.out.lt;have HTn:=Z5 (HT.out.below (Zg (Zg (Zg HB2.out Uf.out) H3.out) hb5));have HOn:=Z5 (UT.out.below hb5);go_wp2_with fail;go_region_held3 (fun w'=>w'.cell? ⟨bx,0,none⟩=some (.slice v2.r.A v2.r.n v2.r.c)/\w'.cell? ⟨bx,1,none⟩=some (.slice v2.c.A v2.c.n v2.c.c)) ((first |(go_split_ands;(repeat' apply And.intro)<;>((refine Zm (show Below wn.heap.size wn _ from ?_) (by assumption));(repeat(first|with_reducible exact hb6|with_reducible exact Below.refl _ _|with_reducible refine Ze ?_ _|with_reducible refine ZY ?_));done))|(go_split_ands;(repeat' apply And.intro)<;>(rw[F5 (show Aw [w3.heap.size] w4 _ from Cs) bx o_ AR];assumption)))) ((first |(go_at_call 9;rw[HKT.out,Z1y.out];refine(HM1.out _ v2 mv at_ r1 r2 r3 r4 (HOn.out.below JD) (HTn.out.below JD)).mono ?_;rintro e w4 ⟨v3,rfl,ho3,hf3,hb6⟩;have hb6:=Zg (show Below wn.heap.size wn _ from JD) hb6;have Z7A:=hb6.size;have hf3:=hf3.Ay (show wn.heap.size<=_ from by first|omega |(simp;done)|(simp;omega));have K6:=(K8.out.below hb6).c0;have K7:=(K8.out.below hb6).c1;have Kz:=(K8.out.below hb6).fz;have Z7B:=(K8.out.below hb6).lt)| fail));all_goals go_wp2_with fail
   all_goals (
    have hnx:w3.heap.size ∉ Cb v3:=fun hm=>by have:=hf3.lo _ hm;omega
    have U4:Aw [w3.heap.size] w4 ((w4.setCell ⟨w3.heap.size,0,none⟩ (.slice v3.r.A v3.r.n v3.r.c)).setCell ⟨w3.heap.size,1,none⟩ (.slice v3.c.A v3.c.n v3.c.c)):=Cs;exact⟨⟨k+1,_,_,v3,o_,s_,(HTI.out mv at_).1,(HTI.out mv at_).2,HP.out,ho3.upd U4 (fun q hq hm=>by simp at hm;subst hm;exact hnx hq),hnx,((K8.out.below hb6).set0 _).set1 _,Dq (Zg (Zg Uf.out H3.out) (Zg hb5 hb6)) U4 (fun q hq=>by simp at hq;omega)⟩,by simp only[intOf];omega⟩)
  .have hkn:k=n0:=by omega
   have hki:¬(k:Int)<(n0:Int):=by omega
   obtain⟨L,hL,hLn,gH,hSy,hUn,Il⟩:=ZkC hn2 FX o_ hfp hti hsj;have hbk:=hti.bulk;have hok:=hti.ok o_ o_;have Ug:=Nat.le_trans gH.bulk (show 1048576<=4194304 by decide);have Uh:=gH.ok o_ o_;have gI:=fun(wx:World) (h:Kc wx v' t) (hT:Ed wx)=>Z8B v' t wx hbk hok h hT
   have HW:=Z5 (Zg HB2.out Uf.out);have Z1F:=Z5 gI;clear gI hti hsj hfp;go_wp2_with fail;refine Zb (Z1F.out _ HO.out.rd (HT.out.below HW.out)) ?_;rintro e w4 ⟨v4,rfl,C9,DF,hb4⟩;have K8:=Z5 (HX.out.below hb4);have Ux:=hb4.size;have hnx:w3.heap.size ∉ Cb v4:=fun hm=>by have:=DF.lo _ hm;omega
   have U4:Aw [w3.heap.size] w4 ((w4.setCell ⟨w3.heap.size,0,none⟩ (.slice v4.r.A v4.r.n v4.r.c)).setCell ⟨w3.heap.size,1,none⟩ (.slice v4.c.A v4.c.n v4.c.c)):=Cs;have R5:=Z5 (C9.upd U4 (fun q hq hm=>by simp at hm;subst hm;exact hnx hq));have HX5:=Z5 ((K8.out.set0 (.slice v4.r.A v4.r.n v4.r.c)).set1 (.slice v4.c.A v4.c.n v4.c.c));have H5:=Z5 (Dq (Zg Uf.out hb4) U4 (fun q hq=>by simp at hq;omega));have gJ:=Z5 gH;clear K6 K7 Kz C9 DF hb4 U4;obtain⟨⟨Ar,nr,cr⟩,⟨Ac,nc,cc⟩,VI,VJ⟩:=v4;obtain rfl:nn=nr:=by have h1:=R5.out.rnT;have h2:=gH.rl;simp only at h1;omega
   dsimp only at R5 K8 HX5 H5;have K6:=K8.out.c0;have K7:=K8.out.c1;have Kz:=K8.out.fz;have Nq:=fun(wx:World) (h:Kc wx ⟨⟨Ar,nn,cr⟩,⟨Ac,nc,cc⟩,VI,VJ⟩ (Gl t))=>Z8A ⟨⟨Ar,nn,cr⟩,⟨Ac,nc,cc⟩,VI,VJ⟩ (Gl t) wx Ug Uh h
   rw[hSy]at Nq;have gK:=Z5 Nq;clear Nq gH;go_wp2_with fail;refine Zb (gK.out _ R5.out.rd) ?_;rintro e w6 ⟨rfl,hb6⟩;have H6:=Z5 (Zg H5.out hb6);have RV:=Z5 (HX5.out.below hb6);have Ui:=Z5 (R5.out.below hb6);clear K6 K7 Kz hb6;have K6:=RV.out.c0;have K7:=RV.out.c1;have Kz:=RV.out.fz;have zbl:=RV.out.lt;obtain⟨ps,q,ok,gp,gq,hps,gM⟩:=Zlv L hL;have Py:=Z5 gM;clear gM;rcases(show nn=2∨nn=3 by omega)with rfl|rfl
   .obtain⟨x0,hx0,-⟩:=gJ.out.BJ (show 0<2 by omega);obtain⟨Ik,va0,Ir,r0,-,Pz,hg0⟩:=Ui.out.BJ hx0;rw[Il 0 x0 hx0]at Pz;obtain⟨gN,gP,gQ⟩:=va0;obtain rfl:n0=gP:=by have h9:L.length=gP:=Pz.rd.len;omega
    dsimp only at r0 Ir;subst Ir;have bH:=Z5 Pz;have R0:=Z5 r0;clear Pz hx0;obtain⟨x1,hx1,-⟩:=gJ.out.BJ (show 1<2 by omega);obtain⟨gr1,va1,hA1,r1,-,hF1,hg1⟩:=Ui.out.BJ hx1;rw[Il 1 x1 hx1]at hF1;obtain⟨VK,gT,VL⟩:=va1;obtain rfl:n0=gT:=by have h9:L.length=gT:=hF1.rd.len;omega
    dsimp only at r1 hA1;obtain rfl:Ik=gr1:=by simpa using hA1
    have pX:=Z5 hF1;have R1:=Z5 r1;clear hF1 hx1 hA1 hg1;have h0c:(0:Int)< 2:=by omega
    go_wp2_with fail;refine Zb (Py.out ⟨gN,n0,gQ⟩ _ bH.out) ?_;rintro e w7 ⟨Ap,np,cp,bp,Nr,Ns,Nt,Nu,Nv,cp2,rfl,gU,gV,FU⟩;have HPa:=Z5 gU;have HQa:=Z5 gV;have gW:=Z5 FU;have hz7:=FU.size;clear K6 K7 Kz;have PD:=Z5 (RV.out.below FU);have K6:=PD.out.c0;have K7:=PD.out.c1;have Kz:=PD.out.fz;have Z1G:=PD.out.lt;have rr1:=Zm FU R1.out;have hg7:Ik<w7.heap.size:=by omega
    have hwn:IntKind.i64.wrap (2-1)=1:=by rw[IntKind.wrap_i64];omega
    have h1c:(0:Int)<=1:=by omega
    have h2c:(1:Int)< 2:=by omega
    go_wp2_with fail;refine Zb (Py.out ⟨VK,n0,VL⟩ _ (pX.out.below (Zg gW.out JD))) ?_;rintro e w8 ⟨Aq,nq,cq,bq,gZ,nq1,iA,iB,iC,iD,rfl,iF,iG,Gh⟩;have K9:Below w7.heap.size w7 w8:=Zg JD Gh;have hz8:=K9.size;have e0:=Zm Gh (show(w7.alloc (.cells #[.bool bp,.slice Nr Ns Nt,.slice Nu Nv cp2] 47)).cell? ⟨w7.heap.size,0,none⟩=some (.bool bp)by simp);have e1:=Zm Gh (show(w7.alloc (.cells #[.bool bp,.slice Nr Ns Nt,.slice Nu Nv cp2] 47)).cell? ⟨w7.heap.size,1,none⟩=some (.slice Nr Ns Nt)by simp);have e2:=Zm Gh (show(w7.alloc (.cells #[.bool bp,.slice Nr Ns Nt,.slice Nu Nv cp2] 47)).cell? ⟨w7.heap.size,2,none⟩=some (.slice Nu Nv cp2)by simp);have Lx:=Z5 (Zg gW.out K9);have Z2C:w7.heap.size<w8.heap.size:=Y6 e0;have HPb:=Z5 iF;have HQb:=Z5 iG;have Nw:=Z5 K9;clear K6 K7 Kz rr1 iF iG gU gV;go_wp2_with fail;refine ZQ fun R hW=>?_
    have hwb:Below w8.heap.size w8 R:=by rw[hW.out];exact JD
    have hzR:=hwb.size;have iH:=Z5 ((RV.out.below Lx.out).below hwb);have c0:=iH.out.c0;have c1:=iH.out.c1;have c2:=Zm hwb (Zm Lx.out R0.out);have c3:=Zm hwb (Zm Lx.out R1.out);have a0:=Zm hwb e0;have a1:=Zm hwb e1;have a2:=Zm hwb e2;have b0:R.cell? ⟨w8.heap.size,0,none⟩=some (.bool bq):=by rw[hW.out];simp
    have b1:R.cell? ⟨w8.heap.size,1,none⟩=some (.slice gZ nq1 iA):=by rw[hW.out];simp
    have b2:R.cell? ⟨w8.heap.size,2,none⟩=some (.slice iB iC iD):=by rw[hW.out];simp
    have hlenA:decide ((n0:Int)=(n0:Int))=true:=by simp
    have Uj:=fun(wx:World) (h:Dt wx ⟨⟨some ⟨Ik,0,none⟩,2,cr⟩,⟨Ac,nc,cc⟩,VI,VJ⟩ (Gl t))=>Z32 ⟨⟨some ⟨Ik,0,none⟩,2,cr⟩,⟨Ac,nc,cc⟩,VI,VJ⟩ (Gl t) wx Ug Uh h
    rw[hUn]at Uj;have HUN:=Z5 Uj;have gG:=Z5 ((Ui.out.below Lx.out).below hwb);have Uk:=Z5 ((pX.out.below Lx.out).below hwb);have hL4:L.length<=4194304:=by omega
    clear Uj e0 e1 e2 hW
    go_region_held3 (fun w'=>w'.cell? ⟨w3.heap.size,0,none⟩=some (.slice (some ⟨Ik,0,none⟩) 2 cr)/\w'.cell? ⟨w3.heap.size,1,none⟩=some (.slice Ac nc cc)/\w'.cell? ⟨Ik,0,none⟩=some (.slice gN n0 gQ)/\w'.cell? ⟨Ik,2,none⟩=some (.slice VK n0 VL)/\w'.cell? ⟨w7.heap.size,0,none⟩=some (.bool bp)/\w'.cell? ⟨w7.heap.size,1,none⟩=some (.slice Nr Ns Nt)/\w'.cell? ⟨w7.heap.size,2,none⟩=some (.slice Nu Nv cp2)/\w'.cell? ⟨w8.heap.size,0,none⟩=some (.bool bq)/\w'.cell? ⟨w8.heap.size,1,none⟩=some (.slice gZ nq1 iA)/\w'.cell? ⟨w8.heap.size,2,none⟩=some (.slice iB iC iD)) ((go_split_ands;(repeat' apply And.intro)<;>((refine Zm (show Below R.heap.size R _ from ?_) (by assumption));(repeat(first|with_reducible exact k4|with_reducible exact k3|with_reducible exact k2|with_reducible exact k1|with_reducible exact Below.refl _ _|with_reducible refine ZY ?_));done))) ((first
     |(go_at_call 14;refine(HUN.out _ (gG.out.below JD)).mono ?_;rintro e w9 ⟨vu,rfl,hou,hfu,bT⟩;have k1:=Zg (show Below R.heap.size R _ from JD) bT;have hvu:vu.n<=4194304:=by(have h9:L.length=vu.n:=hou.rd.len;omega))
     |(go_at_call 13;refine(Xw vu.A VK vu.n n0 vu.c VL L L _ hvu o_ (Row.below hou.rd (show Below w9.heap.size w9 _ from JD)) (Row.below Uk.out.rd (show Below R.heap.size R _ from(by repeat(first|with_reducible exact k1|with_reducible refine ZY ?_))))).mono ?_;rw[kI];rintro e UC ⟨rfl,Ul⟩;have k2:=Zg (show Below R.heap.size R _ from(by repeat(first|with_reducible exact k1|with_reducible refine ZY ?_))) Ul)
     |(go_at_call 15;refine(Zcy ps hps gp _ _ _ (HPa.out.below (Zg (Zg Nw.out hwb) (show Below R.heap.size R _ from(by repeat(first|with_reducible exact k2|with_reducible refine ZY ?_))))) (HPb.out.below (Zg hwb (show Below R.heap.size R _ from(by repeat(first|with_reducible exact k2|with_reducible refine ZY ?_)))))).mono ?_;rintro e w11 ⟨rfl,Um⟩;have k3:=Zg (show Below R.heap.size R _ from(by repeat(first|with_reducible exact k2|with_reducible refine ZY ?_))) Um)
     |(go_at_call 16;refine(ZiO q gq _ _ _ _ _ _ _ (HQa.out.below (Zg (Zg Nw.out hwb) (show Below R.heap.size R _ from(by repeat(first|with_reducible exact k3|with_reducible refine ZY ?_))))) (HQb.out.below (Zg hwb (show Below R.heap.size R _ from(by repeat(first|with_reducible exact k3|with_reducible refine ZY ?_)))))).mono ?_;rintro e w12 ⟨rfl,Un⟩;have k4:=Zg (show Below R.heap.size R _ from(by repeat(first|with_reducible exact k3|with_reducible refine ZY ?_))) Un)
     |fail))
    all_goals go_wp2
    all_goals (go_ret;exact⟨rfl,Zg (Zg (Zg (Zg HB2.out H6.out) Lx.out) hwb) k4⟩)
   .obtain⟨x0,hx0,-⟩:=gJ.out.BJ (show 0<3 by omega);obtain⟨Ik,va0,Ir,r0,-,Pz,hg0⟩:=Ui.out.BJ hx0;rw[Il 0 x0 hx0]at Pz;obtain⟨gN,gP,gQ⟩:=va0;obtain rfl:n0=gP:=by have h9:L.length=gP:=Pz.rd.len;omega
    dsimp only at r0 Ir;subst Ir;have bH:=Z5 Pz;have R0:=Z5 r0;clear Pz hx0;obtain⟨x1,hx1,-⟩:=gJ.out.BJ (show 1<3 by omega);obtain⟨gr1,va1,hA1,r1,-,hF1,hg1⟩:=Ui.out.BJ hx1;rw[Il 1 x1 hx1]at hF1;obtain⟨VK,gT,VL⟩:=va1;obtain rfl:n0=gT:=by have h9:L.length=gT:=hF1.rd.len;omega
    dsimp only at r1 hA1;obtain rfl:Ik=gr1:=by simpa using hA1
    have pX:=Z5 hF1;have R1:=Z5 r1;clear hF1 hx1 hA1 hg1;obtain⟨x2,hx2,-⟩:=gJ.out.BJ (show 2<3 by omega);obtain⟨gr2,va2,hA2,r2,-,hF2,hg2⟩:=Ui.out.BJ hx2;rw[Il 2 x2 hx2]at hF2;obtain⟨Aa2,na2,ca2⟩:=va2;obtain rfl:n0=na2:=by have h9:L.length=na2:=hF2.rd.len;omega
    dsimp only at r2 hA2;obtain rfl:Ik=gr2:=by simpa using hA2
    have HF2:=Z5 hF2;have R2:=Z5 r2;clear hF2 hx2 hA2 hg2;have h0c:(0:Int)< 3:=by omega
    go_wp2_with fail;refine Zb (Py.out ⟨gN,n0,gQ⟩ _ bH.out) ?_;rintro e w7 ⟨Ap,np,cp,bp,Nr,Ns,Nt,Nu,Nv,cp2,rfl,gU,gV,FU⟩;have HPa:=Z5 gU;have HQa:=Z5 gV;have gW:=Z5 FU;have hz7:=FU.size;clear K6 K7 Kz;have PD:=Z5 (RV.out.below FU);have K6:=PD.out.c0;have K7:=PD.out.c1;have Kz:=PD.out.fz;have Z1G:=PD.out.lt;have rr2:=Zm FU R2.out;have hg7:Ik<w7.heap.size:=by omega
    have hwn:IntKind.i64.wrap (3-1)=2:=by rw[IntKind.wrap_i64];omega
    have h1c:(0:Int)<=2:=by omega
    have h2c:(2:Int)< 3:=by omega
    go_wp2_with fail;refine Zb (Py.out ⟨Aa2,n0,ca2⟩ _ (HF2.out.below (Zg gW.out JD))) ?_;rintro e w8 ⟨Aq,nq,cq,bq,gZ,nq1,iA,iB,iC,iD,rfl,iF,iG,Gh⟩;have K9:Below w7.heap.size w7 w8:=Zg JD Gh;have hz8:=K9.size;have e0:=Zm Gh (show(w7.alloc (.cells #[.bool bp,.slice Nr Ns Nt,.slice Nu Nv cp2] 47)).cell? ⟨w7.heap.size,0,none⟩=some (.bool bp)by simp);have e1:=Zm Gh (show(w7.alloc (.cells #[.bool bp,.slice Nr Ns Nt,.slice Nu Nv cp2] 47)).cell? ⟨w7.heap.size,1,none⟩=some (.slice Nr Ns Nt)by simp);have e2:=Zm Gh (show(w7.alloc (.cells #[.bool bp,.slice Nr Ns Nt,.slice Nu Nv cp2] 47)).cell? ⟨w7.heap.size,2,none⟩=some (.slice Nu Nv cp2)by simp);have Lx:=Z5 (Zg gW.out K9);have Z2C:w7.heap.size<w8.heap.size:=Y6 e0;have HPb:=Z5 iF;have HQb:=Z5 iG;have Nw:=Z5 K9;clear K6 K7 Kz rr2 iF iG gU gV;go_wp2_with fail;refine ZQ fun R hW=>?_
    have hwb:Below w8.heap.size w8 R:=by rw[hW.out];exact JD
    have hzR:=hwb.size;have iH:=Z5 ((RV.out.below Lx.out).below hwb);have c0:=iH.out.c0;have c1:=iH.out.c1;have c2:=Zm hwb (Zm Lx.out R0.out);have c3:=Zm hwb (Zm Lx.out R1.out);have a0:=Zm hwb e0;have a1:=Zm hwb e1;have a2:=Zm hwb e2;have b0:R.cell? ⟨w8.heap.size,0,none⟩=some (.bool bq):=by rw[hW.out];simp
    have b1:R.cell? ⟨w8.heap.size,1,none⟩=some (.slice gZ nq1 iA):=by rw[hW.out];simp
    have b2:R.cell? ⟨w8.heap.size,2,none⟩=some (.slice iB iC iD):=by rw[hW.out];simp
    have hlenA:decide ((n0:Int)=(n0:Int))=true:=by simp
    have Uj:=fun(wx:World) (h:Dt wx ⟨⟨some ⟨Ik,0,none⟩,3,cr⟩,⟨Ac,nc,cc⟩,VI,VJ⟩ (Gl t))=>Z32 ⟨⟨some ⟨Ik,0,none⟩,3,cr⟩,⟨Ac,nc,cc⟩,VI,VJ⟩ (Gl t) wx Ug Uh h
    rw[hUn]at Uj;have HUN:=Z5 Uj;have gG:=Z5 ((Ui.out.below Lx.out).below hwb);have Uk:=Z5 ((pX.out.below Lx.out).below hwb);have hL4:L.length<=4194304:=by omega
    clear Uj e0 e1 e2 hW
    go_region_held3 (fun w'=>w'.cell? ⟨w3.heap.size,0,none⟩=some (.slice (some ⟨Ik,0,none⟩) 3 cr)/\w'.cell? ⟨w3.heap.size,1,none⟩=some (.slice Ac nc cc)/\w'.cell? ⟨Ik,0,none⟩=some (.slice gN n0 gQ)/\w'.cell? ⟨Ik,2,none⟩=some (.slice VK n0 VL)/\w'.cell? ⟨w7.heap.size,0,none⟩=some (.bool bp)/\w'.cell? ⟨w7.heap.size,1,none⟩=some (.slice Nr Ns Nt)/\w'.cell? ⟨w7.heap.size,2,none⟩=some (.slice Nu Nv cp2)/\w'.cell? ⟨w8.heap.size,0,none⟩=some (.bool bq)/\w'.cell? ⟨w8.heap.size,1,none⟩=some (.slice gZ nq1 iA)/\w'.cell? ⟨w8.heap.size,2,none⟩=some (.slice iB iC iD)) ((go_split_ands;(repeat' apply And.intro)<;>((refine Zm (show Below R.heap.size R _ from ?_) (by assumption));(repeat(first|with_reducible exact k4|with_reducible exact k3|with_reducible exact k2|with_reducible exact k1|with_reducible exact Below.refl _ _|with_reducible refine ZY ?_));done))) ((first
     |(go_at_call 14;refine(HUN.out _ (gG.out.below JD)).mono ?_;rintro e w9 ⟨vu,rfl,hou,hfu,bT⟩;have k1:=Zg (show Below R.heap.size R _ from JD) bT;have hvu:vu.n<=4194304:=by(have h9:L.length=vu.n:=hou.rd.len;omega))
     |(go_at_call 13;refine(Xw vu.A VK vu.n n0 vu.c VL L L _ hvu o_ (Row.below hou.rd (show Below w9.heap.size w9 _ from JD)) (Row.below Uk.out.rd (show Below R.heap.size R _ from(by repeat(first|with_reducible exact k1|with_reducible refine ZY ?_))))).mono ?_;rw[kI];rintro e UC ⟨rfl,Ul⟩;have k2:=Zg (show Below R.heap.size R _ from(by repeat(first|with_reducible exact k1|with_reducible refine ZY ?_))) Ul)
     |(go_at_call 15;refine(Zcy ps hps gp _ _ _ (HPa.out.below (Zg (Zg Nw.out hwb) (show Below R.heap.size R _ from(by repeat(first|with_reducible exact k2|with_reducible refine ZY ?_))))) (HPb.out.below (Zg hwb (show Below R.heap.size R _ from(by repeat(first|with_reducible exact k2|with_reducible refine ZY ?_)))))).mono ?_;rintro e w11 ⟨rfl,Um⟩;have k3:=Zg (show Below R.heap.size R _ from(by repeat(first|with_reducible exact k2|with_reducible refine ZY ?_))) Um)
     |(go_at_call 16;refine(ZiO q gq _ _ _ _ _ _ _ (HQa.out.below (Zg (Zg Nw.out hwb) (show Below R.heap.size R _ from(by repeat(first|with_reducible exact k3|with_reducible refine ZY ?_))))) (HQb.out.below (Zg hwb (show Below R.heap.size R _ from(by repeat(first|with_reducible exact k3|with_reducible refine ZY ?_)))))).mono ?_;rintro e w12 ⟨rfl,Un⟩;have k4:=Zg (show Below R.heap.size R _ from(by repeat(first|with_reducible exact k3|with_reducible refine ZY ?_))) Un)
     |fail))
    all_goals go_wp2
    all_goals (go_ret;exact⟨rfl,Zg (Zg (Zg (Zg HB2.out H6.out) Lx.out) hwb) k4⟩)
section
open Go.ChangeShapes Go.WideShapes Go.ChangeAt Go.RowKit Go.Deep
def gU8(cs:List Value):Prop:=∃ n:Int,cs=[.int .u8 n]/\(Lit.int .u8 n).wf=true
theorem ZlJ(w:World):iV prog w 5 gU8:=fun H enc base fuel spare held cs x h=>by
 obtain⟨n,rfl,_,hw⟩:=DataW.trod_int underlying5 h
 exact⟨n,rfl,hw⟩
theorem ZmM:Tryz.prog.cellsOf 5=1:=by kernel_rfl
theorem Zef(w:World):iV prog w 22 (qQ w 1 gU8):=Zee underlying22 ZmM (ZlJ w) o_
theorem ZmQ{w:World}{cs:List Value}(h:qQ w 1 gU8 cs):∃ A n c,cs=[.slice A n c]/\n<=maxLen/\Bytes w A n:=by
 obtain⟨A,n,c,css,rfl,h1,h2,h3,h4⟩:=h;refine⟨A,n,c,rfl,o_,fun i hi=>?_⟩;have hl:css.length=n:=h3.1;have hi':i<css.length:=by omega
 obtain⟨_,x,hx,hw⟩:=h4 css[i] (List.getElem_mem hi');obtain⟨g,off,hA,hc⟩:=h3.2 i css[i] (List.getElem?_eq_getElem hi')
 have hr:0<=x/\x<=255:=by
  simp[Lit.wf,IntKind.min,IntKind.max,IntKind.signed,IntKind.bits]at hw;omega
 exact⟨g,off,x,hA,hr.1,hr.2,by have:=hc 0 (.int .u8 x) (by rw[hx];rfl);simpa using this⟩
end
end Go.Proofs.YtcnbphnnfmphlaaGreatDoor
