/- Texts of this proof. -/
import Derived.Maps.RangeWalk
import Derived.Test.YtcnbphnnfmphlaaGreatDoorGtm26
namespace Go.Proofs.YtcnbphnnfmphlaaGreatDoor
open Go.Calls renaming mono → Zb
open Go.Lib renaming hid → Z5
open List renaming length_map → Zo
open Nat renaming le_trans → Zj
open Go.Proofs.Tryz
open Go.RowKit
set_option linter.unusedVariables false
set_option linter.unusedSimpArgs false
set_option maxHeartbeats 4000000
set_option maxRecDepth 100000
variable{W:World}
def ZnC(b:Nat)(w:World):Nat:=match w.cell? ⟨b,4,none⟩with|some (.slice _ n _)=>n|_=>0
def Zo5(b:Nat)(w:World):Nat:=match w.cell? ⟨b,5,none⟩with|some (.slice _ n _)=>n|_=>0
structure IB(w:World)(v:CV)(c:Chan)(wr:World):Prop where
 bx:Own wr 0 77 6 (some ⟨w.heap.size,0,none⟩) 1 1 [Ql v c.base c.expected]
 rx:Own wr 0 77 6 (some ⟨w.heap.size+1,0,none⟩) 1 1 [zC]
 rd:FI wr v c
 bl:Below w.heap.size w wr
 sz:w.heap.size+2<=wr.heap.size
theorem IB.DR{w wr:World}{v:CV}{c:Chan}(h:IB w v c wr):wr.cell? ⟨w.heap.size,0,none⟩=some (.slice v.q.A v.q.n v.q.c)/\wr.cell? ⟨w.heap.size,1,none⟩=some (.int .i64 c.base)/\wr.cell? ⟨w.heap.size,2,none⟩=some (.int .i64 c.expected)/\wr.cell? ⟨w.heap.size,3,none⟩=some (.slice v.i.A v.i.n v.i.c)/\wr.cell? ⟨w.heap.size,4,none⟩=some (.slice v.n.A v.n.n v.n.c)/\wr.cell? ⟨w.heap.size,5,none⟩=some (.slice v.a.A v.a.n v.a.c)/\(∀ o,wr.frozen? ⟨w.heap.size,o,none⟩=false)/\w.heap.size<wr.heap.size :=
 ⟨h.bx.BG 0 _ rfl,h.bx.BG 1 _ rfl,h.bx.BG 2 _ rfl,h.bx.BG 3 _ rfl,h.bx.BG 4 _ rfl,h.bx.BG 5 _ rfl,h.bx.frozen rfl,h.bx.UX⟩
theorem IB.Bg{w wr:World}{v:CV}{c:Chan}(h:IB w v c wr):wr.cell? ⟨w.heap.size+1,0,none⟩=some (.slice none 0 0)/\wr.cell? ⟨w.heap.size+1,1,none⟩=some (.int .i64 0)/\wr.cell? ⟨w.heap.size+1,2,none⟩=some (.int .i64 0)/\wr.cell? ⟨w.heap.size+1,3,none⟩=some (.slice none 0 0)/\wr.cell? ⟨w.heap.size+1,4,none⟩=some (.slice none 0 0)/\wr.cell? ⟨w.heap.size+1,5,none⟩=some (.slice none 0 0)/\(∀ o,wr.frozen? ⟨w.heap.size+1,o,none⟩=false)/\w.heap.size+1<wr.heap.size :=
 ⟨h.rx.BG 0 _ rfl,h.rx.BG 1 _ rfl,h.rx.BG 2 _ rfl,h.rx.BG 3 _ rfl,h.rx.BG 4 _ rfl,h.rx.BG 5 _ rfl,h.rx.frozen rfl,h.rx.UX⟩
theorem IB.below{w wr wr':World}{v:CV}{c:Chan}(h:IB w v c wr)(hb:Below wr.heap.size wr wr'):IB w v c wr':=⟨h.bx.below hb,h.rx.below hb,h.rd.below hb,Zg h.bl hb,Zj h.sz hb.size⟩
theorem Zdv{w X:World}{v:CV}{c:Chan}{b1 B:Nat}(ho:BM W v c)(hf:Ag B W (AP v))(hB:b1<B)(h1:w.heap.size<=b1)(hb:Below w.heap.size w W)(hu:Aw [b1] W X):Bi w c (.returned (YA v c.base c.expected)) X :=
 ⟨v,rfl,ho.upd hu (fun q hq hm=>by simp only[List.mem_singleton]at hm;have:=hf.lo q hq;omega),(hf.Ay o_).grow hu.size,Dq hb hu (fun q hq=>by simp at hq;omega)⟩
theorem IB.next{w W' w5:World}{v v':CV}{c c':Chan}(h:IB w v c W)(ho:BM W' v' c')(hf:Ag W.heap.size W' (AP v'))(hb:Below W.heap.size W W')(hx:Own w5 0 77 6 (some ⟨w.heap.size,0,none⟩) 1 1 [Ql v' c'.base c'.expected])(hg:W'.grownBy w5 (some w.heap.size)):
  IB w v' c' w5/\BM w5 v' c'/\Ag (w.heap.size+2) w5 (AP v'):=by
 have hu:=rM hg;have hs:=h.sz;have Cn:BM w5 v' c':=ho.upd hu (fun q hq hm=>by simp only[List.mem_singleton]at hm;have:=hf.lo q hq;omega);refine⟨⟨hx,(h.rx.below hb).upd hu (fun q hq hm=>by simp[AQ,ob]at hq;simp at hm;omega),Cn.rd,Dq (Zg h.bl hb) hu (fun q hq=>by simp at hq;omega),Zj (Zj hs hb.size) hu.size⟩,Cn,(hf.Ay hs).grow hu.size⟩
theorem Z4F(v:CV)(c:Chan)(w:World)(hm:Xb c<=4194304)(hok:KA c)(hr:FI w v c)(hT:Ct w):
  Calls prog 33 #[YA v c.base c.expected] w fun e w'=>Bi w (Qd c) e w':=by
 have hfw:=Uv hm;have hwb:=hok.2.2.2.2.1;have HM:=Z5 hm;have ED:=Z5 hok;have HT:=Z5 hT;have uB:=Z5 hfw;generalize hb1:YQ c=b1;have HB1:=Z5 hb1;clear hm hok hb1 hT hfw;go_enter func33,ntmps33;go_wp2_with fail;refine Zb (QE v c _ hwb ?_) ?_
 .exact hr.below (Ze (Ze (Below.refl _ _) _) _)
 rw[HB1.out];rintro e w1 ⟨rfl,hb1⟩;have H1:=Zg (Ze (Ze (Below.refl w.heap.size w) _) _) hb1;have ib1:IB w v c w1:=⟨Own.below (Own.box (t:=77) (cs:=Ql v c.base c.expected) (sz:=6) (NI w _ _) rfl) hb1,Own.below (Own.box (t:=77) (cs:=zC) (sz:=6) (JA w _ _) rfl) hb1,hr.below H1,H1,RX hb1⟩;have Rf:=Z5 ib1;obtain⟨x0,x1,x2,x3,x4,x5,xf,xz⟩:=Rf.out.DR;obtain⟨r0,r1,r2,r3,r4,r5,rf,rz⟩:=Rf.out.Bg;clear hb1 H1 ib1;cases b1
 .have hE:Hid (Qd c=c):=by unfold Hid Qd;rw[if_neg (by rw[HB1.out];decide)]
  go_wp2_with fail;refine Zb (Yp v c _ uB.out ?_) ?_
  .exact Rf.out.rd
  rintro e w2 ⟨v2,rfl,ho,hf,hb2⟩;obtain⟨r0,r1,r2,r3,r4,r5,rf,rz⟩:=(Rf.out.below hb2).Bg;have hs:=Rf.out.sz;have HO:=Z5 ho;have HF:=Z5 hf;have H2:=Z5 (Zg Rf.out.bl hb2);clear ho hf hb2;go_wp2_with fail;refine bodyPost_ret (v:=YA v2 c.base c.expected) (by simp[*,results,results33,go_sem]) rfl ?_;rw[hE.out];exact Zdv (b1:=w.heap.size+1) HO.out HF.out o_ o_ H2.out Cs
 have KI0:=Z5 (Zng HB1.out HM.out ED.out);have HD:Hid (Qd c=Jl 9 c):=by unfold Hid Qd;rw[if_pos HB1.out]
 obtain⟨D,hD⟩:∃ D,D=Jl 9 c:=⟨_,rfl⟩;obtain⟨t,ht⟩:∃ t,t=top c:=⟨_,rfl⟩;have HDD:Hid (Jl 9 c=D):=hD.symm;rw[<- hD]at HD;rw[<- ht]at KI0;clear hD ht;go_wp2_with fail;go_loopw [3] (fun i wr=>∃ (k:Nat) (v':CV) (c':Chan),i=.int .i64 (k:Int)/\k<=9/\IB w v' c' wr/\KI t (12 *(k:Int)) c'/\Jl (9-k) c'=D/\(k=0∨(BM wr v' c'/\Ag (w.heap.size+2) wr (AP v')))) (fun i _=>9-(intOf i).toNat)
 case atStart=>exact⟨0,v,c,rfl,o_,Rf.out,KI0.out,HDD.out,.inl rfl⟩
 case round =>
  obtain⟨k,v',c',rfl,hk,hib,hki,hcn,hown⟩:=hrel;have Rh:=Z5 hib;have yG:=Z5 hki;have HCN:=Z5 hcn;clear x0 x1 x2 x3 x4 x5 xf xz r0 r1 r2 r3 r4 r5 rf rz;obtain⟨x0,x1,x2,x3,x4,x5,xf,xz⟩:=Rh.out.DR;obtain⟨r0,r1,r2,r3,r4,r5,rf,rz⟩:=Rh.out.Bg;clear hib hki hcn Rf;by_cases hlt:k<9
  .have hk9:(k:Int)< 9:=by omega
   clear hown;go_wp2_with fail;have hstep:Calls prog 53 #[YA v' c'.base c'.expected,.int .i64 1,.int .i64 0] wr (Bi wr (Qj c')):=mD v' c' 1 0 wr yG.out.ok yG.out.few Rh.out.rd ⟨o_,o_⟩ (HT.out.below Rh.out.bl);have mE:=Z5 yG.out.send
   have yH:Hid (Jl (9-(k+1)) (QQ (Qm (Qj c').net (Qj c')).Ai (Qm (Qj c').net (Qj c')))=D):=by
    have e:9-k=(9-(k+1))+1:=by omega
    have h1:=HCN.out;rw[e]at h1;exact h1
   obtain⟨S,hS⟩:∃ S,S=Qj c':=⟨_,rfl⟩;rw[<- hS]at mE yH hstep;refine Zb hstep ?_;clear hS;rintro e w4 ⟨v4,rfl,C9,DF,hb4⟩;have tok:True:=trivial;clear hstep;go_wp2_with (have _t:=tok;refine ZS rfl 77 (.tmp 1) (.tmp 14) rfl 0 77 6 1 1 w.heap.size 0 0 rfl _ rfl _ (Ql v4 S.base S.expected) rfl rfl rfl (QZ rfl) QG (Rh.out.below hb4).bx o_ ?_;clear tok _t;intro w5 hx5 hg5;obtain⟨Ri,Rj,Rk⟩:=IB.next Rh.out C9 DF hb4 hx5 hg5;have Kl:=Z5 Ri;have Rl:=Z5 Rj;have V7:=Z5 Rk;clear x0 x1 x2 x3 x4 x5 xf xz r0 r1 r2 r3 r4 r5 rf rz;obtain⟨x0,x1,x2,x3,x4,x5,xf,xz⟩:=Kl.out.DR;obtain⟨r0,r1,r2,r3,r4,r5,rf,rz⟩:=Kl.out.Bg;clear hx5 hg5 Ri Rj Rk);go_frame;obtain⟨E,yI⟩:∃ E,E=Qm S.net S:=⟨_,rfl⟩;have HE:Hid (Qm S.net S=E):=yI.symm;rw[<- yI]at yH;clear yI;obtain⟨wo,hwo⟩:∃ wo:World,wo=wr:=⟨_,rfl⟩;clear hwo;go_loopw [15] (fun _ wr2=>∃ (v2:CV) (c2:Chan),IB w v2 c2 wr2/\KI t (12 *(k:Int)+12-c2.net.length) c2/\Qm c2.net c2=E/\BM wr2 v2 c2/\Ag (w.heap.size+2) wr2 (AP v2)) (fun _ wr2=>ZnC w.heap.size wr2)
   case atStart=>exact⟨v4,S,Kl.out,mE.out.up (by have:=mE.out.ok.ln;omega) o_,HE.out,Rl.out,V7.out⟩
   case round =>
    obtain⟨v2,c2,hib,hki,hna,how,hfr⟩:=hrel;have OV:=Z5 hib;have bJ:=Z5 hki;have yJ:=Z5 hna;have yK:=Z5 how;have FR2:=Z5 hfr;clear x0 x1 x2 x3 x4 x5 xf xz r0 r1 r2 r3 r4 r5 rf rz;obtain⟨x0,x1,x2,x3,x4,x5,xf,xz⟩:=OV.out.DR;obtain⟨r0,r1,r2,r3,r4,r5,rf,rz⟩:=OV.out.Bg;have hnl:Hid (c2.net.length=v2.n.n):=by have h1:=yK.out.n.len;rw[Zo]at h1;exact h1
    clear hib hki hna how hfr Kl Rl V7 mE HE;by_cases hn0:c2.net=[]
    .have hz:¬(0:Int)<(v2.n.n:Int):=by have:=hnl.out;rw[hn0]at this;simp at this;omega
     have hz':¬ 0<v2.n.n:=by omega
     have hE2:Hid (c2=E):=by have:=yJ.out;rw[hn0]at this;exact this
     have KI3:=Z5 (bJ.out.up (m':=12 *(k:Int)+12) o_ o_);clear hn0 yJ bJ;go_wp2_with fail;go_loopw [21] (fun _ wr3=>∃ (v3:CV) (c3:Chan),IB w v3 c3 wr3/\KI t (12 *(k:Int)+12) c3/\QQ c3.Ai c3=QQ E.Ai E/\BM wr3 v3 c3/\Ag (w.heap.size+2) wr3 (AP v3)) (fun _ wr3=>Zo5 w.heap.size wr3)
     case atStart=>exact⟨v2,c2,OV.out,KI3.out,by rw[hE2.out],yK.out,FR2.out⟩
     case round =>
      obtain⟨v3,c3,hib,hki,hna,how,hfr⟩:=hrel;have Rm:=Z5 hib;have mF:=Z5 hki;have yL:=Z5 hna;have OW3:=Z5 how;have FR3:=Z5 hfr;clear x0 x1 x2 x3 x4 x5 xf xz r0 r1 r2 r3 r4 r5 rf rz;obtain⟨x0,x1,x2,x3,x4,x5,xf,xz⟩:=Rm.out.DR;obtain⟨r0,r1,r2,r3,r4,r5,rf,rz⟩:=Rm.out.Bg;have hal:Hid (c3.Ai.length=v3.a.n):=by have h1:=OW3.out.a.len;rw[Zo]at h1;exact h1
      clear hib hki hna how hfr OV yK FR2 KI3 hE2 hnl;by_cases ha0:c3.Ai=[]
      .have hz:¬(0:Int)<(v3.a.n:Int):=by have:=hal.out;rw[ha0]at this;simp at this;omega
       have hz':¬ 0<v3.a.n:=by omega
       have hE3:Hid (c3=QQ E.Ai E):=by have:=yL.out;rw[ha0]at this;exact this
       clear ha0 yL;go_wp2_with fail;exact⟨⟨k+1,v3,c3,s_,o_,Rm.out,mF.out.up (by push_cast;omega) (by push_cast;omega),by rw[hE3.out];exact yH.out,.inr ⟨OW3.out,FR3.out⟩⟩,by simp only[intOf];omega⟩
      .have hz:(0:Int)<(v3.a.n:Int):=by
        have:=hal.out;cases hc:c3.Ai with
        |nil=>exact absurd hc ha0
        |cons p l=>rw[hc]at this;simp at this;omega
       have hz':0<v3.a.n:=by omega
       obtain⟨_,s2,s3,_⟩:=Zgq ha0;have S2:=Z5 s2;have S3:=Z5 s3;have V8:=Z5 (mF.out.Cr ha0);clear s2 s3 ha0;go_wp2_with fail;have hstep:=mD v3 c3 6 0 _ mF.out.ok mF.out.few Rm.out.rd ⟨o_,o_⟩ (HT.out.below Rm.out.bl);obtain⟨S',hS⟩:∃ S',S'=Yv c3 6 0:=⟨_,rfl⟩;rw[<- hS]at S2 S3 V8 hstep;clear hS;refine Zb hstep ?_;rintro e w4 ⟨v4,rfl,C9,DF,hb4⟩;have tok:True:=trivial;clear hstep;go_wp2_with (have _t:=tok;refine ZS rfl 77 (.tmp 1) (.tmp 26) rfl 0 77 6 1 1 w.heap.size 0 0 rfl _ rfl _ (Ql v4 S'.base S'.expected) rfl rfl rfl (QZ rfl) QG (Rm.out.below hb4).bx o_ ?_;clear tok _t;intro w5 hx5 hg5;obtain⟨Ri,Rj,Rk⟩:=IB.next Rm.out C9 DF hb4 hx5 hg5;have Kl:=Z5 Ri;have Rl:=Z5 Rj;have V7:=Z5 Rk;clear x0 x1 x2 x3 x4 x5 xf xz r0 r1 r2 r3 r4 r5 rf rz;obtain⟨x0,x1,x2,x3,x4,x5,xf,xz⟩:=Kl.out.DR;obtain⟨r0,r1,r2,r3,r4,r5,rf,rz⟩:=Kl.out.Bg;clear hx5 hg5 Ri Rj Rk);go_frame;have Z6B:S'.Ai.length=v4.a.n:=by have h1:=Rl.out.a.len;rw[Zo]at h1;exact h1
       go_roundw
       case rel=>exact⟨v4,S',Kl.out,V8.out,S2.out.trans yL.out,Rl.out,V7.out⟩
       case measure =>
        have h1:=hal.out;have h2:=S3.out;have g1:=Rm.out.DR.2.2.2.2.2.1;have g2:=Kl.out.DR.2.2.2.2.2.1;unfold Zo5;rw[g1,g2];show v4.a.n<v3.a.n;omega
    .have hz:(0:Int)<(v2.n.n:Int):=by
      have:=hnl.out;cases hc:c2.net with
      |nil=>exact absurd hc hn0
      |cons p l=>rw[hc]at this;simp at this;omega
     have hz':0<v2.n.n:=by omega
     obtain⟨_,s2,s3⟩:=ZfC hn0;have S2:=Z5 s2;have S3:=Z5 s3;have V8:=Z5 (bJ.out.net o_ hn0);clear s2 s3 hn0;go_wp2_with fail;have hstep:=mD v2 c2 2 0 _ bJ.out.ok bJ.out.few OV.out.rd ⟨o_,o_⟩ (HT.out.below OV.out.bl);obtain⟨S',hS⟩:∃ S',S'=Yv c2 2 0:=⟨_,rfl⟩;rw[<- hS]at S2 S3 V8 hstep;clear hS;refine Zb hstep ?_;rintro e w4 ⟨v4,rfl,C9,DF,hb4⟩;have tok:True:=trivial;clear hstep;go_wp2_with (have _t:=tok;refine ZS rfl 77 (.tmp 1) (.tmp 20) rfl 0 77 6 1 1 w.heap.size 0 0 rfl _ rfl _ (Ql v4 S'.base S'.expected) rfl rfl rfl (QZ rfl) QG (OV.out.below hb4).bx o_ ?_;clear tok _t;intro w5 hx5 hg5;obtain⟨Ri,Rj,Rk⟩:=IB.next OV.out C9 DF hb4 hx5 hg5;have Kl:=Z5 Ri;have Rl:=Z5 Rj;have V7:=Z5 Rk;clear x0 x1 x2 x3 x4 x5 xf xz r0 r1 r2 r3 r4 r5 rf rz;obtain⟨x0,x1,x2,x3,x4,x5,xf,xz⟩:=Kl.out.DR;obtain⟨r0,r1,r2,r3,r4,r5,rf,rz⟩:=Kl.out.Bg;clear hx5 hg5 Ri Rj Rk);go_frame;have Z6C:S'.net.length=v4.n.n:=by have h1:=Rl.out.n.len;rw[Zo]at h1;exact h1
     have h2:=S3.out;go_roundw
     case rel=>exact⟨v4,S',Kl.out,V8.out.up o_ (by have:=V8.out.ok.ln;omega),S2.out.trans yJ.out,Rl.out,V7.out⟩
     case measure =>
      have h1:=hnl.out;have g1:=OV.out.DR.2.2.2.2.1;have g2:=Kl.out.DR.2.2.2.2.1;unfold ZnC;rw[g1,g2];show v4.n.n<v2.n.n;omega
  .obtain rfl:k=9:=by omega
   rcases hown with h0 |⟨how,hfr⟩
   .omega
   have hcD:Hid (c'=D):=HCN.out;have hs:=Rh.out.sz;have HO:=Z5 how;have HF:=Z5 hfr;clear how hfr;go_wp2_with fail;refine bodyPost_ret (v:=YA v' c'.base c'.expected) (by simp[*,results,results33,go_sem]) rfl ?_;rw[HD.out,<- hcD.out];exact Zdv (b1:=w.heap.size+1) HO.out HF.out o_ o_ Rh.out.bl Cs

end Go.Proofs.YtcnbphnnfmphlaaGreatDoor
