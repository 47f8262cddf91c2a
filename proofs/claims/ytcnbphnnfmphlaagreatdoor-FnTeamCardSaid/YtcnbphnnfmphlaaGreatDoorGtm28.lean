/- Texts of this proof. -/
import Derived.Test.YtcnbphnnfmphlaaGreatDoorGtm12
import Derived.Test.YtcnbphnnfmphlaaGreatDoorGtm27
namespace Go.Proofs.YtcnbphnnfmphlaaGreatDoor
open Go.Calls renaming mono → Zb
open Go.Lib renaming hid → Z5
open _root_.List renaming getElem?_eq_getElem → Z4,mem_of_getElem? → Z6,getElem?_eq_some_iff → Za
open Nat renaming le_trans → Zj
open Option.some renaming inj → Z7,injEq → Zi
open Go.Proofs.Tryz
open Go.RowKit
set_option linter.unusedVariables false
set_option linter.unusedSimpArgs false
set_option maxHeartbeats 8000000
set_option maxRecDepth 100000
variable{f:A7}{us vs:List Value}{j:Nat}{Q U':Nat->Prop}{r1:Sv}{v':TV}{u:Ak}{a1 a2:Value}{W0 w' w1 w5 wc:World}
structure CW(w w1 wr:World)(a1 a2:Value)(r1 c1:Sv)(v':TV)(u:Ak):Prop where
 x1:BO wr (w.heap.size+1) (.slice none 0 0) (.slice none 0 0)
 x2:BO wr w1.heap.size a1 a2
 o:OT (w.heap.size+2) wr v' u
 r:v'.r=r1
 c:v'.c=c1
 nb:w1.heap.size ∉ Cb v'
 b:Below w.heap.size w wr
theorem OT.MQ{B:Nat}{w:World}{v:TV}{t:Ak}{i:Nat}{row:List Chan}{c:Chan}(h:OT B w v t)(hB:B<=w.heap.size)(hi:t.channels[i]? = some row)(hj:row[j]? = some c){gt g n k:Nat}(hA:v.c.A=some ⟨gt,0,none⟩) 
  (hc:w.cell? ⟨gt,i,none⟩=some (.slice (some ⟨g,0,none⟩) n k)):g∈Cb v:=by
 obtain⟨cst,bK,vs,css,g2,vc,h1,h2,h3,h4,h5,k1,k2,k3,k4,k5,k6,k7,k8,k9⟩:=h.chan hB hi hj;rw[h3]at h1 hA;obtain rfl:bK=gt:=by simpa using hA
 have e:=QB h1 h2 0 _ rfl;simp only[Nat.mul_one,Nat.add_zero]at e;rw[hc]at e;obtain rfl:g=g2:=by simp at e;exact e.1
 exact k7 _ (List.mem_cons_of_mem _ List.mem_cons_self)
theorem CW.box{w wr:World}{c1:Sv}(h:CW w w1 wr a1 a2 r1 c1 v' u)(hw:w.heap.size+2<=w1.heap.size):CW w w1 ((wr.setCell ⟨w1.heap.size,0,none⟩ a1).setCell ⟨w1.heap.size,1,none⟩ a2) a1 a2 r1 c1 v' u:=by
 have uE:Aw [w1.heap.size] wr ((wr.setCell ⟨w1.heap.size,0,none⟩ a1).setCell ⟨w1.heap.size,1,none⟩ a2):=Cs;refine⟨h.x1.upd uE AR,(h.x2.set0 _).set1 _,⟨h.o.own.upd uE (fun q hq hm=>?_),h.o.fr.grow uE.size⟩,h.r,h.c,h.nb,Dq h.b uE (fun q hq=>by simp at hq;omega)⟩;simp at hm;subst hm;exact h.nb hq
theorem Z8B(v:TV)(t:Ak)(w:World)(hm:Xk t<=1048576)(hok:Mq t)(hr:Kc w v t)(hT:Ed w):
  Calls prog 10 #[QL v] w fun e w'=>∃ v',e=.returned (QL v')/\Dt w' v' (Gl t)/\Ag w.heap.size w' (Cb v')/\Below w.heap.size w w':=by
 have FT:=Z5 (qZ (Zj hm (show 1048576<=4194304 by decide)));have HM:=Z5 (Zj hm (show 1048576<=4194304 by decide));have My:=Z5 hm;have HK:=Z5 hok;have HR:=Z5 hr;have HL:Hid (t.Ad.length=v.r.n):=hr.r.len;have HN:Hid (v.r.n<=4194304):=by have h1:=jX FT.out;have:=HL.out;rw[Hid];omega
 have Mx:=Z5 hT;obtain⟨⟨Ar,nr,cr⟩,⟨Ac,nc,cc⟩,fr,fc⟩:=v;generalize hbt:YG t=bt;have HB:=Z5 hbt;clear hbt hm hok hr hT;go_enter func10,ntmps10;go_wp2_with fail;refine Zb (Xv ⟨⟨Ar,nr,cr⟩,⟨Ac,nc,cc⟩,fr,fc⟩ t _ FT.out ?_) ?_
 .exact HR.out.below (Ze (Ze (Below.refl _ _) _) _)
 rintro e w1 ⟨⟨⟨CO,Bl,Cg⟩,⟨Ei,BV,Ch⟩,EB,Eu⟩,rfl,ho1,hf1,hb1⟩;have B:=Zg (Ze (Ze (Below.refl w.heap.size w) _) _) hb1;have B1:=Z5 B;have X0:BO w1 w.heap.size (.slice Ar nr cr) (.slice Ac nc cc):=BO.below ⟨by go_simp,by go_simp,fun o=>by go_simp⟩ hb1;have X1:BO w1 (w.heap.size+1) (.slice none 0 0) (.slice none 0 0):=BO.below ⟨by go_simp,by go_simp,fun o=>by go_simp⟩ hb1;have O:OT (w.heap.size+2) w1 ⟨⟨CO,Bl,Cg⟩,⟨Ei,BV,Ch⟩,EB,Eu⟩ t:=⟨ho1,hf1.Ay s_⟩;have O1:=Z5 O;have a0:=X0.c0;have a1:=X0.c1;have a2:=X0.lt;have b0:=X1.c0;have b1:=X1.c1;have b2:=X1.fz;have b3:=X1.lt;have hlt1:=O.lt;have KM:Hid (w.heap.size+2<=w1.heap.size):=by have h9:=X1.lt;rw[Hid];omega
 clear ho1 hf1;go_wp2_with fail;refine Zb (Xz ⟨⟨Ar,nr,cr⟩,⟨Ac,nc,cc⟩,fr,fc⟩ t _ HM.out HK.out ?_) ?_
 .exact HR.out.below (Ze B _)
 rintro e w2 ⟨he,hb2⟩;rw[HB.out]at he;subst he;have X2:BO w2 w1.heap.size (.slice CO Bl Cg) (.slice Ei BV Ch):=BO.below ⟨by go_simp,by go_simp,fun o=>by go_simp⟩ hb2;have DJ:Below w1.heap.size w1 w2:=Zg (Ze (Below.refl _ _) _) hb2;have X0:=X0.below DJ;have X1:=X1.below DJ;have O:=O.below DJ;have B:=Zg B DJ;clear a0 a1 a2 b0 b1 b2 b3;have a0:=X0.c0;have a1:=X0.c1;have a2:=X0.lt;have b0:=X1.c0;have b1:=X1.c1;have b2:=X1.fz;have b3:=X1.lt;have c0:=X2.c0;have c1:=X2.c1;have c3:=X2.lt;cases bt
 .have HF:=Z5 (ZmP HB.out);go_wp2_with fail;refine bodyPost_ret (v:=QL ⟨⟨CO,Bl,Cg⟩,⟨Ei,BV,Ch⟩,EB,Eu⟩) (by simp[*,results,results10,go_sem]) rfl ?_;rw[HF.out];exact⟨⟨⟨CO,Bl,Cg⟩,⟨Ei,BV,Ch⟩,EB,Eu⟩,rfl,Sy B O _ _⟩
 have hn1:t.Ad.length=Bl:=O.own.r.len.out;have bL:w1.heap.size ∉ Cb ⟨⟨CO,Bl,Cg⟩,⟨Ei,BV,Ch⟩,EB,Eu⟩:=fun hm=>by have:=hlt1 _ hm;omega
 have hc0:=Znj HB.out My.out hn1;have hpos:=(YY HB.out).1;have bM:=(YY HB.out).2.1;obtain⟨E6,c00,x00,m1,m2,_⟩:=hc0.parts HB.out My.out HK.out hn1 (show 0<Bl by omega) (show 0<Bl by omega);obtain⟨gt,_,_,_,hA,_⟩:=O1.out.ch KM.out m1 m2;have Ow:t.channels.length=BV:=O.own.c.len.out;have OW:BV=t.Ad.length:=by have:=(YY HB.out).2.2.1;omega
 have Z6D:Bl<=3:=by omega
 have yM:Hid (BV=Bl):=by rw[Hid];omega
 dsimp only at hA;subst hA;have yN:=Z5 hn1;have yO:=Z5 (Zdk HB.out hn1);have yP:CW w w1 w2 (.slice CO Bl Cg) (.slice (some ⟨gt,0,none⟩) BV Ch) ⟨CO,Bl,Cg⟩ ⟨some ⟨gt,0,none⟩,BV,Ch⟩ ⟨⟨CO,Bl,Cg⟩,⟨some ⟨gt,0,none⟩,BV,Ch⟩,EB,Eu⟩ t:=⟨X1,X2,O,rfl,rfl,bL,B⟩;clear m1 m2 Ow OW hn1 bL hpos bM X0 O1;go_wp2_with fail;clear a0 a1 a2 b0 b1 b2 b3 c0 c1 c3 X1 X2;go_loopw [15,4,5] (fun iv y4 y5 wr=>∃ (i:Nat) (v':TV) (u:Ak),i<=Bl/\iv=.int .i64 i/\CW w w1 wr (.slice CO Bl Cg) (.slice (some ⟨gt,0,none⟩) BV Ch) ⟨CO,Bl,Cg⟩ ⟨some ⟨gt,0,none⟩,BV,Ch⟩ v' u/\CI t Bl i 0 u/\Hid (u=PW Bl i t)) (fun iv _ _ _=>Bl-(intOf iv).toNat)
 case atStart=>exact⟨0,_,t,o_,rfl,yP,hc0,rfl⟩
 case round =>
  obtain⟨i,v',u,hi,rfl,hcw,hci,he⟩:=hrel;have c0:=hcw.x2.c0;have c1:=hcw.x2.c1;have c3:=hcw.x2.lt;have b0:=hcw.x1.c0;have b1:=hcw.x1.c1;have b2:=hcw.x1.fz;have b3:=hcw.x1.lt;by_cases hlt:i<Bl
  .have z0:(0:Int)<=(i:Int):=by omega
   go_wp2_with fail;clear c0 c1 c3 b0 b1 b2 b3;go_loopw [21,5] (fun jv y5 wr=>∃ (j:Nat) (v':TV) (u:Ak),j<=Bl/\jv=.int .i64 j/\CW w w1 wr (.slice CO Bl Cg) (.slice (some ⟨gt,0,none⟩) BV Ch) ⟨CO,Bl,Cg⟩ ⟨some ⟨gt,0,none⟩,BV,Ch⟩ v' u/\CI t Bl i j u/\Hid (u=WW i j (PW Bl i t))) (fun jv _ _=>Bl-(intOf jv).toNat)
   case atStart=>exact⟨0,v',u,o_,rfl,hcw,hci,he⟩
   case round =>
    clear hcw hci he;obtain⟨j,v',u,hj,rfl,hcw,hci,he⟩:=hrel;obtain⟨wo,rfl⟩:∃ wo:World,wo=wr:=⟨_,rfl⟩;have c0:=hcw.x2.c0;have c1:=hcw.x2.c1;have c3:=hcw.x2.lt;by_cases hjl:j<Bl
    .by_cases hij:i=j
     .subst hij;go_wp2_with fail;go_roundw
      case rel=>exact⟨i+1,v',u,o_,by go_num,hcw,hci.skip,he.out.trans (Zar _ _).symm⟩
      case measure=>simp[intOf];omega
     .obtain⟨row,c,x,k1,k2,k3,k4,k5,k6,k7,k8⟩:=hci.parts HB.out My.out HK.out yN.out hlt hjl;have Ha:=Zj k6 (show 1048576<=4194304 by decide);have yQ:=hci.step k1 k2 k3 (ZgP k5 Ha k7) hij;have hfc:=Zki Ha k7;have hts:=((Zo6 Ha).calm).i;have HRV:=Z5 (ZkF hij k1 k2);have MR:w.heap.size+2<=wo.heap.size:=by have:=KM.out;omega
      obtain⟨bK,g,vs,vc,hA,p0,hvs,⟨q0,q1,q2,q3,q4,q5⟩,cf,F8,hln,hg,hgt,hgB,SA,hne,hput⟩:=hcw.o.ch MR k1 k2;have hgm:g∈Cb v':=hcw.o.MQ MR k1 k2 hA p0;have hgn1:g≠w1.heap.size:=fun e=>hcw.nb (e▸hgm)
      rw[hcw.c]at hA;obtain rfl:gt=bK:=by simpa using hA
      have HP:=Z5 hput;have Z6E:i<BV:=by have:=yM.out;omega
      have Z6G:¬(i:Int)=(j:Int):=by omega
      have z1:(i:Int)<(BV:Int):=by omega
      have z2:(0:Int)<=(j:Int):=by omega
      have z3:(j:Int)<(vs.n:Int):=by omega
      clear hput hA hln;go_wp2_with fail;go_region_law (first |(go_simp;go_at_call 33;refine Zb (Z4F vc c _ Ha k7 ?_ ((Mx.out.below (Zg hcw.b JD)).1.tab)) ?_;exact F8.below JD;rintro e w5 ⟨v5,rfl,Cn,NJ,hb5⟩;have hW:=Zg (show Below wo.heap.size wo _ from JD) hb5;have p0:=Zm hW p0;have q0:=Zm hW q0;have q1:=Zm hW q1;have q2:=Zm hW q2;have q3:=Zm hW q3;have q4:=Zm hW q4;have q5:=Zm hW q5;have cf:=fun o=>(Q6 hW g hg o).trans (cf o);have c0:=Zm hW c0;have c1:=Zm hW c1;have s5:=hW.size;have hg5:g<w5.heap.size:=o_;have vM:gt<w5.heap.size:=o_;have c4:w1.heap.size<w5.heap.size:=o_))
      all_goals
       obtain⟨⟨v6r,v6c,OC,OD⟩,O6,FV,jY⟩:=HP.out w5 hW v5 _ Cn (NJ.Ay s_);have e1:=FV.r.trans hcw.r;have e2:=FV.c.trans hcw.c;dsimp only at e1 e2;subst e1 e2;have uS:=JG w5 g j v5 (Qd c);have B6:=Dq (Zg hcw.b hW) uS (fun q hq=>by simp at hq;omega);have X1:=(hcw.x1.below hW).upd uS AR;have X2:=(hcw.x2.below hW).upd uS AR
       have OX:w1.heap.size ∉ Cb (⟨⟨CO,Bl,Cg⟩,⟨some ⟨gt,0,none⟩,BV,Ch⟩,OC,OD⟩:TV):=fun hm=>by
        rcases jY _ hm with h3|h3
        .exact hcw.nb h3
        .have:=NJ.lo _ h3;(try simp at this);omega
       obtain⟨W6,EW⟩:∃ W6,W6=NP w5 g j v5 (Qd c):=⟨_,rfl⟩;rw[<- EW]at O6 FV B6 X1 X2;have s6:w1.heap.size<W6.heap.size:=X2.lt;unfold NP at EW;rw[<- EW];clear EW c0 c1 p0 q0 q1 q2 q3 q4 q5 cf uS;have c0:=X2.c0;have c1:=X2.c1;have hx6:(XW u i j (Qd c)).Ad[j]? = some x:=k3;have jZ:=Su (j:=j) (c:=Qd c) k1;have hjr:(row.set j (Qd c))[j]? = some (Qd c):=List.getElem?_set_self (Za.1 k2).1;go_wp2_with fail;refine Zb (Z8t w (w.heap.size+2) 1054336 ⟨⟨CO,Bl,Cg⟩,⟨some ⟨gt,0,none⟩,BV,Ch⟩,OC,OD⟩ (XW u i j (Qd c)) i j (row.set j (Qd c)) (Qd c) x W6 O6 (by have:=KM.out;omega) B6 o_ jZ hjr hx6 k4 AO hfc hts Mx.out) ?_;rintro e w7 ⟨⟨v7r,v7c,bN,bO⟩,rfl,O7,KN⟩;rw[<- HRV.out]at O7;have f1:=KN.r;have f2:=KN.c;dsimp only at f1 f2;subst f1 f2;have FU:w.heap.size+1 ∉ Cb (⟨⟨CO,Bl,Cg⟩,⟨some ⟨gt,0,none⟩,BV,Ch⟩,OC,OD⟩:TV):=fun hm=>by have:=O6.fr.lo _ hm;omega
       have Tk:w1.heap.size ∉ Cb (⟨⟨CO,Bl,Cg⟩,⟨some ⟨gt,0,none⟩,BV,Ch⟩,bN,bO⟩:TV):=fun hm=>by
        rcases KN.Fj _ hm with h3|h3
        .exact OX h3
        .omega
       have B7:=Dq B6 KN.upd (fun q hq=>by have:=O6.fr.lo q hq;omega);have X1:=X1.upd KN.upd FU;have X2:=X2.upd KN.upd OX;have yR:CW w w1 w7 (.slice CO Bl Cg) (.slice (some ⟨gt,0,none⟩) BV Ch) ⟨CO,Bl,Cg⟩ ⟨some ⟨gt,0,none⟩,BV,Ch⟩ ⟨⟨CO,Bl,Cg⟩,⟨some ⟨gt,0,none⟩,BV,Ch⟩,bN,bO⟩ (NN u (i,j)):=⟨X1,X2,O7,rfl,rfl,Tk,B7⟩;have heq:NN u (i,j)=WW i (j+1) (PW Bl i t):=by rw[he.out];rfl
       have HEQ:=Z5 heq;clear c0 c1 heq;have c0:=X2.c0;have c1:=X2.c1;have c2:=X2.fz;have c3':=X2.lt;have yS:=yR.box KM.out;go_wp2_with fail;go_roundw
       case rel=>exact⟨j+1,_,_,o_,by go_num,yS,yQ,HEQ⟩
       case measure=>simp[intOf];omega
    .obtain rfl:j=Bl:=by omega
     go_wp2_with fail;go_roundw
     case rel=>exact⟨i+1,v',u,o_,by go_num,hcw,hci.next,he⟩
     case measure=>simp[intOf];omega
  .obtain rfl:Bl=i:=by omega
   have he2:=he.out;go_wp2_with fail;refine bodyPost_ret (v:=.agg #[.slice CO Bl Cg,.slice (some ⟨gt,0,none⟩) BV Ch]) (by simp[*,results,results10,go_sem]) rfl ?_;rw[yO.out,<- he2];exact⟨v',by simp only[QL,hcw.r,hcw.c],Sy hcw.b hcw.o _ _⟩
theorem Tm{w:World}{v:TV}{t:Ak}{b:Nat}(hB:Below w.heap.size w w1)(hb:w.heap.size<=b)(h:OT (b+1) w1 v t)(x y:Value):
  Dt ((w1.setCell ⟨b,0,none⟩ x).setCell ⟨b,1,none⟩ y) v t/\Ag w.heap.size ((w1.setCell ⟨b,0,none⟩ x).setCell ⟨b,1,none⟩ y) (Cb v)/\
   Below w.heap.size w ((w1.setCell ⟨b,0,none⟩ x).setCell ⟨b,1,none⟩ y):=by
 have uS:Aw [b] w1 ((w1.setCell ⟨b,0,none⟩ x).setCell ⟨b,1,none⟩ y):=Cs;have h2:=h.upd uS (fun q hq=>by simp at hq;omega);exact⟨h2.own,h2.fr.Ay o_,Dq hB uS (fun q hq=>by simp at hq;omega)⟩
structure Tp(w:World)(b:Nat)(f:A7):Prop where
 c0:w.cell? ⟨b,0,none⟩=some (.int .i64 f.id)
 c1:w.cell? ⟨b,1,none⟩=some (.int .i64 f.kind)
 c2:w.cell? ⟨b,2,none⟩=some (.string f.AL)
 c3:w.cell? ⟨b,3,none⟩=some (.string f.Z00)
 c4:w.cell? ⟨b,4,none⟩=some (.int .i64 f.Af.turn)
 c5:w.cell? ⟨b,5,none⟩=some (.int .i64 f.Af.x)
 c6:w.cell? ⟨b,6,none⟩=some (.int .i64 f.Af.y)
 c7:w.cell? ⟨b,7,none⟩=some (.int .i64 f.Ao)
theorem Tp.below{w:World}{b:Nat}(h:Tp w b f)(k:Below w.heap.size w w'):Tp w' b f :=
 ⟨Zm k h.c0,Zm k h.c1,Zm k h.c2,Zm k h.c3,Zm k h.c4,Zm k h.c5,Zm k h.c6,Zm k h.c7⟩
theorem Tp.lt{w:World}{b:Nat}(h:Tp w b f):b<w.heap.size:=Y6 h.c0
structure GW(w w1 wr:World)(a0 a1 a2 a3:Value)(r1 c1:Sv)(v':TV)(u:Ak):Prop where
 x0:BO wr w.heap.size a0 a1
 x1:BO wr (w.heap.size+1+1) (.slice none 0 0) (.slice none 0 0)
 x2:BO wr w1.heap.size a2 a3
 o:OT (w.heap.size+1+1+1) wr v' u
 r:v'.r=r1
 c:v'.c=c1
 nb:w1.heap.size ∉ Cb v'
 b:Below w.heap.size w wr
theorem GW.below{w wr:World}{a0 a3:Value}{c1:Sv}(h:GW w w1 wr a0 a1 a2 a3 r1 c1 v' u)(k:Below wr.heap.size wr w'):GW w w1 w' a0 a1 a2 a3 r1 c1 v' u :=
 ⟨h.x0.below k,h.x1.below k,h.x2.below k,h.o.below k,h.r,h.c,h.nb,Zg h.b k⟩
theorem Dt.BJ{w:World}{v:TV}{t:Ak}{x:Am}(h:Dt w v t)(hx:t.Ad[j]? = some x):
  ∃ (g:Nat) (vx:Sv),v.r.A=some ⟨g,0,none⟩/\w.cell? ⟨g,j*2,none⟩=some (.slice vx.A vx.n vx.c)/\w.cell? ⟨g,j*2+1,none⟩=some (.string x.Av)/\BR w vx x.Ab/\g<w.heap.size:=by
 obtain⟨css,Bb,h1,h2,_⟩:=h.r;obtain⟨f,cs,hf,hcs,vx,rfl,ho,rfl⟩:=h2.at_ hx;rcases h1.cases with⟨_,_,_,rfl⟩|⟨g,hA,_,hgl,_⟩
 .simp at hcs
 .rw[hA]at h1;exact⟨g,vx,hA,by simpa using QB h1 hcs 0 _ rfl,QB h1 hcs 1 _ rfl,ho,hgl⟩
theorem Z9w(v:TV)(t:Ak)(r:Int)(f:A7)(w:World)(hm:Xk t<=1048576)(hok:Mq t)(hr:Dt w v t)(hwr:(Lit.int .i64 r).wf=true)(jV:Ib [f]<=2097152)(hfo:okF [f])(hT:Ed w):
  Calls prog 7 #[QL v,.int .i64 r,Yx f.id f.kind f.AL f.Z00 f.Af.turn f.Af.x f.Af.y f.Ao] w fun e w'=>∃ v',e=.returned (.tuple #[QL v',.bool (Gv t r f).2])/\Dt w' v' (Gv t r f).1/\Ag w.heap.size w' (Cb v')/\Below w.heap.size w w':=by
 have FT:=Z5 (qZ (Zj hm (show 1048576<=4194304 by decide)));have HM:=Z5 (Zj hm (show 1048576<=4194304 by decide));have My:=Z5 hm;have HK:=Z5 hok;have HO:=Z5 hr;have HR:=Z5 hr.rd;have HL:Hid (t.Ad.length=v.r.n):=hr.r.len;have HN:Hid (v.r.n<=4194304):=by have h1:=jX FT.out;have:=HL.out;rw[Hid];omega
 have Mx:=Z5 hT;obtain⟨hf1,hf2⟩:=iW (Zj jV (show 2097152<=4194304 by decide)) f s_;have HFB:=Z5 jV;have HFO:=Z5 hfo;have HWR:=Z5 hwr;have Uq:MI f.id:=(lY (hfo f s_).2.2.1).2;obtain⟨⟨Ar,nr,cr⟩,⟨Ac,nc,cc⟩,fr,fc⟩:=v;generalize hbt:YG t=bt;generalize hbr:Gj t r=br;have HB:=Z5 hbt;have HI:=Z5 hbr;clear hbt hbr hm hok hr hwr hT jV hfo;go_enter func7,ntmps7;go_wp2_with fail;refine Zb (Xv ⟨⟨Ar,nr,cr⟩,⟨Ac,nc,cc⟩,fr,fc⟩ t _ FT.out ?_) ?_
 .exact HR.out.below (Ze (Ze (Ze (Below.refl _ _) _) _) _)
 rintro e w1 ⟨⟨⟨CO,Bl,Cg⟩,⟨Ei,BV,Ch⟩,EB,Eu⟩,rfl,ho1,hf3,hb1⟩;have B:=Zg (Ze (Ze (Ze (Below.refl w.heap.size w) _) _) _) hb1;have X0:BO w1 w.heap.size (.slice Ar nr cr) (.slice Ac nc cc):=BO.below ⟨by go_simp,by go_simp,fun o=>by go_simp⟩ hb1;have XF:Tp w1 (w.heap.size+1) f:=Tp.below ⟨by go_simp,by go_simp,by go_simp,by go_simp,by go_simp,by go_simp,by go_simp,by go_simp⟩ hb1;have X1:BO w1 (w.heap.size+1+1) (.slice none 0 0) (.slice none 0 0):=BO.below ⟨by go_simp,by go_simp,fun o=>by go_simp⟩ hb1;have O:OT (w.heap.size+1+1+1) w1 ⟨⟨CO,Bl,Cg⟩,⟨Ei,BV,Ch⟩,EB,Eu⟩ t:=⟨ho1,hf3.Ay s_⟩;have O1:=Z5 O;have a0:=X0.c0;have a1:=X0.c1;have a2:=X0.lt;have b0:=X1.c0;have b1:=X1.c1;have b2:=X1.fz;have b3:=X1.lt;have f0:=XF.c0;have f1:=XF.c1;have f2:=XF.c2;have f3:=XF.c3;have f4:=XF.c4;have f5:=XF.c5;have f6:=XF.c6;have f7:=XF.c7;have f8:=XF.lt;have hlt1:=O.lt;have KM:Hid (w.heap.size+1+1+1<=w1.heap.size):=by have h9:=X1.lt;rw[Hid];omega
 clear ho1 hf3;go_wp2_with fail;refine Zb (Xz ⟨⟨Ar,nr,cr⟩,⟨Ac,nc,cc⟩,fr,fc⟩ t _ HM.out HK.out ?_) ?_
 .exact HR.out.below (Ze B _)
 rintro e w2 ⟨he,hb2⟩;rw[HB.out]at he;subst he;have X2:BO w2 w1.heap.size (.slice CO Bl Cg) (.slice Ei BV Ch):=BO.below ⟨by go_simp,by go_simp,fun o=>by go_simp⟩ hb2;have DJ:Below w1.heap.size w1 w2:=Zg (Ze (Below.refl _ _) _) hb2;have X0:=X0.below DJ;have X1:=X1.below DJ;have XF:=XF.below DJ;have O:=O.below DJ;have B:=Zg B DJ;clear a0 a1 a2 b0 b1 b2 b3 f0 f1 f2 f3 f4 f5 f6 f7 f8;have a0:=X0.c0;have a1:=X0.c1;have a2:=X0.lt;have b0:=X1.c0;have b1:=X1.c1;have b2:=X1.fz;have b3:=X1.lt;have c0:=X2.c0;have c1:=X2.c1;have c3:=X2.lt;have f0:=XF.c0;have f1:=XF.c1;have f2:=XF.c2;have f3:=XF.c3;have f4:=XF.c4;have f5:=XF.c5;have f6:=XF.c6;have f7:=XF.c7;have f8:=XF.lt;cases bt
 .have HF:=Z5 (Zjz (r:=r) (f:=f) HB.out);go_wp2_with fail;refine bodyPost_ret (v:=.tuple #[QL ⟨⟨CO,Bl,Cg⟩,⟨Ei,BV,Ch⟩,EB,Eu⟩,.bool false]) (by simp[*,results,results7,go_sem]) rfl ?_;rw[HF.out];exact⟨⟨⟨CO,Bl,Cg⟩,⟨Ei,BV,Ch⟩,EB,Eu⟩,rfl,Tm B o_ O _ _⟩
 go_wp2_with fail;refine Zb (uR ⟨⟨Ar,nr,cr⟩,⟨Ac,nc,cc⟩,fr,fc⟩ t r _ HL.out HN.out) ?_;rintro e w3 ⟨he,hb3⟩;rw[HI.out]at he;subst he;have X0:=X0.below hb3;have X1:=X1.below hb3;have X2:=X2.below hb3;have XF:=XF.below hb3;have O:=O.below hb3;have B:=Zg B hb3;clear a0 a1 a2 b0 b1 b2 b3 c0 c1 c3 f0 f1 f2 f3 f4 f5 f6 f7 f8;have a0:=X0.c0;have a1:=X0.c1;have a2:=X0.lt;have b0:=X1.c0;have b1:=X1.c1;have b2:=X1.fz;have b3:=X1.lt;have c0:=X2.c0;have c1:=X2.c1;have c3:=X2.lt;have f0:=XF.c0;have f1:=XF.c1;have f2:=XF.c2;have f3:=XF.c3;have f4:=XF.c4;have f5:=XF.c5;have f6:=XF.c6;have f7:=XF.c7;have f8:=XF.lt;cases br
 .have HF:=Z5 (Zjy (f:=f) HI.out);go_wp2_with fail;refine bodyPost_ret (v:=.tuple #[QL ⟨⟨CO,Bl,Cg⟩,⟨Ei,BV,Ch⟩,EB,Eu⟩,.bool false]) (by simp[*,results,results7,go_sem]) rfl ?_;rw[HF.out];exact⟨⟨⟨CO,Bl,Cg⟩,⟨Ei,BV,Ch⟩,EB,Eu⟩,rfl,Tm B o_ O _ _⟩
 go_wp2_with fail;refine Zb (X3 _ _ Uq) ?_;rintro e w4 ⟨rfl,rfl⟩;by_cases hid:Yo f.id=r;rotate_left
 .have HF:=Z5 (Zjx (t:=t) hid);go_wp2_with fail;refine bodyPost_ret (v:=.tuple #[QL ⟨⟨CO,Bl,Cg⟩,⟨Ei,BV,Ch⟩,EB,Eu⟩,.bool false]) (by simp[*,results,results7,go_sem]) rfl ?_;rw[HF.out];exact⟨⟨⟨CO,Bl,Cg⟩,⟨Ei,BV,Ch⟩,EB,Eu⟩,rfl,Tm B o_ O _ _⟩
 have g2:=UI.1 HI.out;obtain⟨r,rfl⟩:∃ n:Nat,r=n:=⟨r.toNat,o_⟩;have hj:r<nr:=by have:=HL.out;(try dsimp only at this);omega
 obtain⟨x,hx⟩:∃ x,t.Ad[r]? = some x:=⟨_,Z4 (by have:=HL.out;(try dsimp only at this);omega)⟩;have hxm:=Z6 hx;have bP:=(YY HB.out).2.2.2.1 x hxm;have hsx:Qq x.Ab:=(UK bP).small;have hfx:El x.Ab:=(UK bP).few;have hjs:x.Av.size<=4194304:=Zj (ZfM My.out hxm) AO;obtain⟨g0,vx,Ir,q0,q1,yT,hg0⟩:=HO.out.BJ hx;dsimp only at Ir;subst Ir;have q0:=Zm B q0;have q1:=Zm B q1;have hRx:=(yT.below B).rd;have yU:KF vx:=sV yT;have hg3:g0<w3.heap.size:=by have:=B.size;omega
 have HX:=Z5 hx;have O3:=Z5 O;have hs3:w1.heap.size<w3.heap.size:=X2.lt;have mG:=Z5 (vO HB.out HI.out hid hx);have HID:=Z5 hid;have z0:(0:Int)<=(r:Int):=by omega
 have z1:(r:Int)<(nr:Int):=by omega
 go_wp2_with fail;go_region_held3 (fun w'=>w'.cell? ⟨w.heap.size,0,none⟩=some (.slice (some ⟨g0,0,none⟩) nr cr)/\w'.cell? ⟨g0,r*2,none⟩=some (.slice vx.A vx.n vx.c)/\w'.cell? ⟨w.heap.size+1,0,none⟩=some (.int .i64 f.id)/\w'.cell? ⟨w.heap.size+1,1,none⟩=some (.int .i64 f.kind)/\w'.cell? ⟨w.heap.size+1,2,none⟩=some (.string f.AL)/\w'.cell? ⟨w.heap.size+1,3,none⟩=some (.string f.Z00)/\w'.cell? ⟨w.heap.size+1,4,none⟩=some (.int .i64 f.Af.turn)/\w'.cell? ⟨w.heap.size+1,5,none⟩=some (.int .i64 f.Af.x)/\w'.cell? ⟨w.heap.size+1,6,none⟩=some (.int .i64 f.Af.y)/\w'.cell? ⟨w.heap.size+1,7,none⟩=some (.int .i64 f.Ao)) (first |(go_split_ands;(repeat' apply And.intro)<;>(exact Zm hb4 (by assumption)))| go_keep) ((first |(go_at_call 25;refine Zb (Jj vx x.Ab f _ hfx hsx ⟨hf1,hf2⟩ yU ?_) ?_;exact hRx.below JD;rintro e w4 ⟨v4,rfl,C9,DF,hb4⟩)));have Iz:Below w3.heap.size w3 w4:=Zg (show Below w3.heap.size w3 _ from JD) hb4;have X0:=X0.below Iz;have X1:=X1.below Iz;have X2:=X2.below Iz;have XF:=XF.below Iz;have O:=O.below Iz;have B:=Zg B Iz;have q1:=Zm Iz q1;have hg4:g0<w4.heap.size:=by have:=Iz.size;omega
 clear a0 a1 a2 b0 b1 b2 b3 c0 c1 c3 f0 f1 f2 f3 f4 f5 f6 f7 f8;have a0:=X0.c0;have a1:=X0.c1;have a2:=X0.lt;have b0:=X1.c0;have b1:=X1.c1;have b2:=X1.fz;have b3:=X1.lt;have c0:=X2.c0;have c1:=X2.c1;have c3:=X2.lt;have f0:=XF.c0;have f1:=XF.c1;have f2:=XF.c2;have f3:=XF.c3;have f4:=XF.c4;have f5:=XF.c5;have f6:=XF.c6;have f7:=XF.c7;have f8:=XF.lt;go_wp2_with fail;go_region_held3 (fun w'=>w'.cell? ⟨w.heap.size,0,none⟩=some (.slice (some ⟨g0,0,none⟩) nr cr)/\w'.cell? ⟨g0,r*2+1,none⟩=some (.string x.Av)/\w'.cell? ⟨w.heap.size+1,0,none⟩=some (.int .i64 f.id)/\w'.cell? ⟨w.heap.size+1,1,none⟩=some (.int .i64 f.kind)/\w'.cell? ⟨w.heap.size+1,2,none⟩=some (.string f.AL)/\w'.cell? ⟨w.heap.size+1,3,none⟩=some (.string f.Z00)/\w'.cell? ⟨w.heap.size+1,4,none⟩=some (.int .i64 f.Af.turn)/\w'.cell? ⟨w.heap.size+1,5,none⟩=some (.int .i64 f.Af.x)/\w'.cell? ⟨w.heap.size+1,6,none⟩=some (.int .i64 f.Af.y)/\w'.cell? ⟨w.heap.size+1,7,none⟩=some (.int .i64 f.Ao)) (first |(go_split_ands;(repeat' apply And.intro)<;>(exact Zm hb5 (by assumption)))| go_keep) ((first |(go_at_call 26;refine Zb (Z09 x.Av false 0 f.id f.kind f.AL f.Z00 f.Af.turn f.Af.x f.Af.y f.Ao _ hjs o_ hf1 hf2 (Mx.out.below (Zg B JD))) ?_;rintro e w5 ⟨rfl,hb5⟩)));have OY:Below w4.heap.size w4 w5:=Zg (show Below w4.heap.size w4 _ from JD) hb5;have X0:=X0.below OY;have X1:=X1.below OY;have X2:=X2.below OY;have XF:=XF.below OY;have O:=O.below OY;have B:=Zg B OY;clear a0 a1 a2 b0 b1 b2 b3 c0 c1 c3 f0 f1 f2 f3 f4 f5 f6 f7 f8;have a0:=X0.c0;have a1:=X0.c1;have a2:=X0.lt;have b0:=X1.c0;have b1:=X1.c1;have b2:=X1.fz;have b3:=X1.lt;have c0:=X2.c0;have c1:=X2.c1;have c3:=X2.lt;have f0:=XF.c0;have f1:=XF.c1;have f2:=XF.c2;have f3:=XF.c3;have f4:=XF.c4;have f5:=XF.c5;have f6:=XF.c6;have f7:=XF.c7;have f8:=XF.lt;have C9:=C9.below OY;have DF:=DF.Ay (show w3.heap.size<=_ by simp);go_wp2_with fail;refine Zb (Z3J ⟨some ⟨w5.heap.size,0,none⟩,1,1⟩ ⟨r,[f]⟩ _ (show Ib [f]<=4194304 from Zj HFB.out AO) ⟨HWR.out,HFO.out⟩ ?_ (Mx.out.below (Ze B _)).1.tab) ?_
 .exact Yh _ _ f.cells 8 _ s_
 rintro e w6 ⟨rfl,hb6⟩;have EW:Below w5.heap.size w5 w6:=Zg (Ze (Below.refl _ _) _) hb6;have X0:=X0.below EW;have X1:=X1.below EW;have X2:=X2.below EW;have XF:=XF.below EW;have O:=O.below EW;have B:=Zg B EW;clear a0 a1 a2 b0 b1 b2 b3 c0 c1 c3 f0 f1 f2 f3 f4 f5 f6 f7 f8;have a0:=X0.c0;have a1:=X0.c1;have a2:=X0.lt;have b0:=X1.c0;have b1:=X1.c1;have b2:=X1.fz;have b3:=X1.lt;have c0:=X2.c0;have c1:=X2.c1;have c3:=X2.lt;have f0:=XF.c0;have f1:=XF.c1;have f2:=XF.c2;have f3:=XF.c3;have f4:=XF.c4;have f5:=XF.c5;have f6:=XF.c6;have f7:=XF.c7;have f8:=XF.lt;have C9:=C9.below EW;have hx9:=HX.out;have MS:Below w3.heap.size w3 w6:=Zg (Zg Iz OY) EW;obtain⟨T,mH⟩:∃ T,T=Qr ⟨(r:Int),[f]⟩:=⟨_,rfl⟩;have hTs:T.size<=4194304:=by have:=Zph f r;rw[<- mH]at this;omega
 obtain⟨E,WV⟩:∃ E,E=EV x.Av ⟨false,0,⟨f.id,f.kind,f.AL,f.Z00,⟨f.Af.turn,f.Af.x,f.Af.y⟩,f.Ao⟩⟩:=⟨_,rfl⟩;obtain⟨D,Tq⟩:∃ D,D=Qt x.Ab f:=⟨_,rfl⟩;have hme:Gv t r f=if D.2 && E.2 then (match Fs r T t.Ad.length (Dz t r ⟨D.1,E.1⟩)with|some u=>(u,true)| none=>(t,false))else (t,false):=by rw[mG.out,mH,WV,Tq];first|done|rfl
 have Tt:OI t Bl r 0 (Dz t r ⟨D.1,E.1⟩):=by rw[Tq];exact Znf HB.out My.out O.own.r.len.out hx9
 rw[<- mH,<- WV,<- Tq];rw[<- Tq]at C9;have OZ:=Z5 hme;clear mH WV Tq hme mG hx9 yT hRx q0 q1;obtain⟨D1,D2⟩:=D;obtain⟨E1,E2⟩:=E;dsimp only at Tt C9 OZ ⊢;cases D2
 .have HF:=Z5 (show Gv t r f=(t,false)by rw[OZ.out];rfl);go_wp2_with fail;refine bodyPost_ret (v:=.tuple #[QL ⟨⟨CO,Bl,Cg⟩,⟨Ei,BV,Ch⟩,EB,Eu⟩,.bool false]) (by simp[*,results,results7,go_sem]) rfl ?_;rw[HF.out];exact⟨⟨⟨CO,Bl,Cg⟩,⟨Ei,BV,Ch⟩,EB,Eu⟩,rfl,Tm B o_ O _ _⟩
 cases E2
 .have HF:=Z5 (show Gv t r f=(t,false)by rw[OZ.out];rfl);go_wp2_with fail;refine bodyPost_ret (v:=.tuple #[QL ⟨⟨CO,Bl,Cg⟩,⟨Ei,BV,Ch⟩,EB,Eu⟩,.bool false]) (by simp[*,results,results7,go_sem]) rfl ?_;rw[HF.out];exact⟨⟨⟨CO,Bl,Cg⟩,⟨Ei,BV,Ch⟩,EB,Eu⟩,rfl,Tm B o_ O _ _⟩
 have hn1:t.Ad.length=Bl:=O.own.r.len.out;have bQ:=Z5 (show Gv t r f=(match Fs r T Bl (Dz t r ⟨D1,E1⟩)with|some u=>(u,true)| none=>(t,false))by rw[OZ.out,hn1];rfl);obtain⟨g,vr,hA,p0,p1,pf,F8,hg,hgB,hgm,hvl,OB,GX,SB⟩:=O3.out.EU (by have:=KM.out;omega) HX.out;dsimp only at hA;subst hA;have p0:=Zm MS p0;have p1:=Zm MS p1;have pf:=fun o=>(Q6 MS g hg o).trans (pf o)
 have s36:=MS.size;have hg6:g<w6.heap.size:=by omega
 have Z6H:=hlt1 g hgm;obtain⟨⟨v7r,v7c,bN,bO⟩,O7,KN,ft7⟩:=OB w6 MS v4 _ C9 (DF.grow (Zg OY EW).size) E1;have e1:=KN.r;have e2:=KN.c;dsimp only at e1 e2;subst e1 e2;have uS:Aw [g] w6 ((w6.setCell ⟨g,r*2,none⟩ (.slice v4.A v4.n v4.c)).setCell ⟨g,r*2+1,none⟩ (.string E1)):=Cs;have B7:=Dq B uS (fun q hq=>by simp at hq;omega);have X0:=X0.upd uS AR;have X1:=X1.upd uS AR;have X2:=X2.upd uS AR
 have Tk:w1.heap.size ∉ Cb (⟨⟨some ⟨g,0,none⟩,Bl,Cg⟩,⟨Ei,BV,Ch⟩,bN,bO⟩:TV):=fun hm=>by
  rcases ft7 _ hm with h3|h3
  .have:=hlt1 _ h3.1;omega
  .have:=DF.lo _ h3;omega
 have bR:r<Bl:=by have h1:=HL.out;(try dsimp only at h1);omega
 have z3:(r:Int)<(Bl:Int):=by omega
 have OW:BV=Bl:=by have h1:=O.own.c.len.out;have h2:=(YY HB.out).2.2.1;(try dsimp only at h1);omega
 have HNC:=Z5 OW;have FX:Bl<=3:=by have:=(YY HB.out).2.1;omega
 have yN:=Z5 hn1;obtain⟨E6,c00,m1,m2,_⟩:=Tt.parts HB.out My.out HK.out hn1 bR (show 0<Bl by omega);obtain⟨gt,_,_,_,hA,_⟩:=O1.out.ch (by have:=KM.out;omega) m1 m2;dsimp only at hA;subst hA;clear OB GX SB hn1 OW m1 m2 C9 DF F8;go_wp2_with fail;obtain⟨W7,hW7⟩:∃ W7,W7=(w6.setCell ⟨g,r*2,none⟩ (.slice v4.A v4.n v4.c)).setCell ⟨g,r*2+1,none⟩ (.string E1):=⟨_,rfl⟩;rw[<- hW7]at O7 B7 X0 X1 X2 ⊢;have bS:GW w w1 W7 (.slice (some ⟨g0,0,none⟩) nr cr) (.slice Ac nc cc) (.slice (some ⟨g,0,none⟩) Bl Cg) (.slice (some ⟨gt,0,none⟩) BV Ch) ⟨some ⟨g,0,none⟩,Bl,Cg⟩ ⟨some ⟨gt,0,none⟩,BV,Ch⟩ ⟨⟨some ⟨g,0,none⟩,Bl,Cg⟩,⟨some ⟨gt,0,none⟩,BV,Ch⟩,bN,bO⟩ (Dz t r ⟨D1,E1⟩):=⟨X0,X1,X2,O7,rfl,rfl,Tk,B7⟩;clear hW7 uS KN ft7 O O1 O3 X0 X1 X2 XF p0 p1 pf a0 a1 a2 b0 b1 b2 b3 c0 c1 c3 f0 f1 f2 f3 f4 f5 f6 f7 f8;go_loopw [81,14,16] (fun jv y14 y16 wr=>∃ (j:Nat) (v':TV) (u:Ak),j<=Bl/\jv=.int .i64 j/\GW w w1 wr (.slice (some ⟨g0,0,none⟩) nr cr) (.slice Ac nc cc) (.slice (some ⟨g,0,none⟩) Bl Cg) (.slice (some ⟨gt,0,none⟩) BV Ch) ⟨some ⟨g,0,none⟩,Bl,Cg⟩ ⟨some ⟨gt,0,none⟩,BV,Ch⟩ v' u/\OI t Bl r j u/\Hid (Fs r T j (Dz t r ⟨D1,E1⟩)=some u)) (fun jv _ _ _=>Bl-(intOf jv).toNat)
 case atStart=>exact⟨0,_,_,o_,rfl,bS,Tt,rfl⟩
 case round =>
  clear bS;obtain⟨j,v',u,hj2,rfl,hgw,hoi,he⟩:=hrel;obtain⟨wo,rfl⟩:∃ wo:World,wo=wr:=⟨_,rfl⟩;have a0:=hgw.x0.c0;have a1:=hgw.x0.c1;have a2:=hgw.x0.lt;have b0:=hgw.x1.c0;have b1:=hgw.x1.c1;have b2:=hgw.x1.fz;have b3:=hgw.x1.lt;have c0:=hgw.x2.c0;have c1:=hgw.x2.c1;have c3:=hgw.x2.lt;by_cases hjl:j<Bl
  .by_cases hjr:j=r
   .subst hjr;go_wp2_with fail;go_roundw
    case rel=>exact⟨j+1,v',u,o_,by go_num,hgw,hoi.skip,ZcH he.out⟩
    case measure=>simp[intOf];omega
   .obtain⟨row,c,k1,k2,k3,k4,k5⟩:=hoi.parts HB.out My.out HK.out yN.out bR hjl;have MR:w.heap.size+1+1+1<=wo.heap.size:=by have:=KM.out;omega
    obtain⟨bK,gc,vs,vc,hA,p0,hvs,⟨q0,q1,q2,q3,q4,q5⟩,cf,xX,hln,hgc,hgt,hgB,SA,hne,hput⟩:=hgw.o.ch MR k1 k2;have hgm:gc∈Cb v':=hgw.o.MQ MR k1 k2 hA p0;have hgn1:gc≠w1.heap.size:=fun e=>hgw.nb (e▸hgm)
    rw[hgw.c]at hA;obtain rfl:gt=bK:=by simpa using hA
    have HP:=Z5 hput;have z4:(r:Int)<(BV:Int):=by have:=HNC.out;omega
    have z5:(0:Int)<=(j:Int):=by omega
    have z6:(j:Int)<(vs.n:Int):=by omega
    have Z6I:¬(j:Int)=(r:Int):=by omega
    clear hput hA hln;go_wp2_with fail;refine Zb (Zd4 vc c T _ o_ k4 ?_ hTs) ?_
    .exact xX
    rintro e w8 ⟨v8,rfl,OQ,mI,Gh⟩;have G7:=hgw.below Gh;cases hof:(Xj c T).2 with
    |false =>
     have HN:=Z5 (ZoW he.out hjr k1 k2 hof)
     have HF:Hid (Gv t r f=(t,false)):=by
      have h1:=ZcI HN.out (Bl-(j+1));rw[show j+1+(Bl-(j+1))=Bl by omega]at h1;rw[Hid,bQ.out,h1]
     have a0:=G7.x0.c0;have a1:=G7.x0.c1;have a2:=G7.x0.lt;have b0:=G7.x1.c0;have b1:=G7.x1.c1;have b2:=G7.x1.fz;have b3:=G7.x1.lt;go_wp2_with fail;refine Zb (Xv ⟨⟨some ⟨g0,0,none⟩,nr,cr⟩,⟨Ac,nc,cc⟩,fr,fc⟩ t _ FT.out ?_) ?_
     .exact HR.out.below (Ze G7.b _)
     rintro e w9 ⟨v9,rfl,Wp,hf9,bT⟩;have bU:Below w8.heap.size w8 w9:=Zg (Ze (Below.refl _ _) _) bT;have X9:=G7.x1.below bU;clear a0 a1 a2 b0 b1 b2 b3;have b0:=X9.c0;have b1:=X9.c1;have b2:=X9.fz;have b3:=X9.lt;go_wp2_with fail;refine bodyPost_ret (v:=.tuple #[QL v9,.bool false]) (by simp[*,results,results7,go_sem]) rfl ?_;rw[HF.out];exact⟨v9,rfl,Tm (Zg G7.b bU) o_ ⟨Wp,hf9.Ay (by have:=Gh.size;simp;omega)⟩ _ _⟩
    |true =>
     have yV:=hoi.step (s:=T) k1 k2;have hoj:=ZfA he.out hjr k1 k2 hof;have HOJ:=Z5 hoj;clear hoj a0 a1 a2 b0 b1 b2 b3 c0 c1 c3;go_wp2_with fail;refine ZQ fun W hW=>?_
     have Cq:Below w8.heap.size w8 W:=by rw[hW.out];exact Ze (Below.refl _ _) _
     have k0:W.cell? ⟨w8.heap.size,0,none⟩=some (.slice v8.q.A v8.q.n v8.q.c):=by rw[hW.out];simp
     have k1':W.cell? ⟨w8.heap.size,1,none⟩=some (.int .i64 (Xj c T).1.base):=by rw[hW.out];simp
     have k2':W.cell? ⟨w8.heap.size,2,none⟩=some (.int .i64 (Xj c T).1.expected):=by rw[hW.out];simp
     have k3':W.cell? ⟨w8.heap.size,3,none⟩=some (.slice v8.i.A v8.i.n v8.i.c):=by rw[hW.out];simp
     have k4':W.cell? ⟨w8.heap.size,4,none⟩=some (.slice v8.n.A v8.n.n v8.n.c):=by rw[hW.out];simp
     have k5':W.cell? ⟨w8.heap.size,5,none⟩=some (.slice v8.a.A v8.a.n v8.a.c):=by rw[hW.out];simp
     clear hW;have kz:=Y6 k0;have hbW:Below wo.heap.size wo W:=Zg Gh Cq;have IK:=hgw.below hbW;have c0:=IK.x2.c0;have c1:=IK.x2.c1;have c3:=IK.x2.lt;have p0:=Zm hbW p0;have q0:=Zm hbW q0;have q1:=Zm hbW q1;have q2:=Zm hbW q2;have q3:=Zm hbW q3;have q4:=Zm hbW q4;have q5:=Zm hbW q5;have cf:=fun o=>(Q6 hbW gc hgc o).trans (cf o)
     have OQ:=OQ.below Cq;have mI:=mI.grow Cq.size;go_region
     all_goals
      obtain⟨⟨v6r,v6c,OC,OD⟩,O6,FV,jY⟩:=HP.out W hbW v8 _ OQ (mI.Ay s_);have e1:=FV.r.trans hgw.r;have e2:=FV.c.trans hgw.c;dsimp only at e1 e2;subst e1 e2;have uS:=JG W gc j v8 (Xj c T).1;have B6:=ZY (Dq IK.b uS (fun q hq=>by simp at hq;omega));have X0:=(IK.x0.upd uS AR).below (ZY (Below.refl _ _));have X1:=(IK.x1.upd uS AR).below (ZY (Below.refl _ _));have X2:=(IK.x2.upd uS AR).below (ZY (Below.refl _ _));have O6:=O6.below (ZY (Below.refl _ _))
      have OX:w1.heap.size ∉ Cb (⟨⟨some ⟨g,0,none⟩,Bl,Cg⟩,⟨some ⟨gt,0,none⟩,BV,Ch⟩,OC,OD⟩:TV):=fun hm=>by
       rcases jY _ hm with h3|h3
       .exact hgw.nb h3
       .have:=mI.lo _ h3;(try simp at this);have:=hgw.x2.lt;omega
      have yX:GW w w1 (NP W gc j v8 (Xj c T).1).drew (.slice (some ⟨g0,0,none⟩) nr cr) (.slice Ac nc cc) (.slice (some ⟨g,0,none⟩) Bl Cg) (.slice (some ⟨gt,0,none⟩) BV Ch) ⟨some ⟨g,0,none⟩,Bl,Cg⟩ ⟨some ⟨gt,0,none⟩,BV,Ch⟩ ⟨⟨some ⟨g,0,none⟩,Bl,Cg⟩,⟨some ⟨gt,0,none⟩,BV,Ch⟩,OC,OD⟩ (XW u r j (Xj c T).1):=⟨X0,X1,X2,O6,rfl,rfl,OX,B6⟩;clear c0 c1 c3 p0 q0 q1 q2 q3 q4 q5 cf k0 k1' k2' k3' k4' k5' uS;go_wp2_with fail;go_roundw
      case rel=>exact⟨j+1,_,_,o_,by go_num,yX,yV,HOJ⟩
      case measure=>simp[intOf];omega
  .obtain rfl:Bl=j:=by omega
   have HF:Hid (Gv t r f=(u,true)):=by rw[Hid,bQ.out,he.out]
   go_wp2_with fail;refine bodyPost_ret (v:=.tuple #[.agg #[.slice (some ⟨g,0,none⟩) Bl Cg,.slice (some ⟨gt,0,none⟩) BV Ch],.bool true]) (by simp[*,results,results7,go_sem]) rfl ?_;rw[HF.out];exact⟨v',by simp only[QL,hgw.r,hgw.c],Tm hgw.b o_ hgw.o _ _⟩
theorem BO.new(w:World)(a b:Value)(t:TypeId):BO (w.alloc (.cells #[a,b] t)) w.heap.size a b:=⟨s_,s_,fun o=>by simp⟩
theorem BO.drew{w:World}{b:Nat}{u0 u1:Value}(h:BO w b u0 u1):BO w.drew b u0 u1:=⟨h.c0,h.c1,h.fz⟩
structure MU(W0 w:World)(bx:Nat)(v:TV)(d:Ak):Prop where
 below:Below W0.heap.size W0 w
 lo:W0.heap.size<=bx
 x:BO w bx (.slice v.r.A v.r.n v.r.c) (.slice v.c.A v.c.n v.c.c)
 ow:Dt w v d
 fr:Ag W0.heap.size w (Cb v)
 nx:bx ∉ Cb v
theorem ZeW{bx:Nat}{v:TV}{d:Ak}{x y:Value}(hc:Below W0.heap.size W0 wc)(hb:Below wc.heap.size wc w5)(lo:W0.heap.size<=bx)(hx:bx<wc.heap.size)(ow:Dt w5 v d)(hf:Ag wc.heap.size w5 (Cb v))(z:BO w5 bx x y):
  MU W0 ((w5.setCell ⟨bx,0,none⟩ (.slice v.r.A v.r.n v.r.c)).setCell ⟨bx,1,none⟩ (.slice v.c.A v.c.n v.c.c)) bx v d:=by
 have hu:Aw [bx] w5 ((w5.setCell ⟨bx,0,none⟩ (.slice v.r.A v.r.n v.r.c)).setCell ⟨bx,1,none⟩ (.slice v.c.A v.c.n v.c.c)):=Cs;have hs:=hc.size;have nx:bx ∉ Cb v:=fun hm=>by have:=hf.lo _ hm;omega
 exact⟨Dq (Zg hc hb) hu (fun q hq=>by simp at hq;omega),lo,(z.set0 _).set1 _,ow.upd hu (fun q hq hm=>by simp at hm;subst hm;exact nx hq),(hf.Ay hs).grow hu.size,nx⟩
theorem ZhS{v:TV}{d:Ak}(t:TypeId)(hc:Below W0.heap.size W0 wc)(hb:Below wc.heap.size wc w5)(ow:Dt w5 v d)(hf:Ag wc.heap.size w5 (Cb v)):
  MU W0 (w5.alloc (.cells #[.slice v.r.A v.r.n v.r.c,.slice v.c.A v.c.n v.c.c] t)) w5.heap.size v d:=by
 have h1:=Zg hc hb;have ha:Below w5.heap.size w5 (w5.alloc (.cells #[.slice v.r.A v.r.n v.r.c,.slice v.c.A v.c.n v.c.c] t)):=Ze (Below.refl _ _) _;exact⟨Zg h1 ha,h1.size,BO.new _ _ _ _,ow.below ha,(hf.Ay hc.size).grow ha.size,fun hm=>by have:=hf.hi _ hm;omega⟩
inductive AV where
 |bool (b:Bool)
 |int (k:IntKind) (n:Int)
 |str (s:ByteArray)
 |nil
 |sl (ns:Bool) (E:TypeId) (sz:Nat) (els:List (List AV))
 |agg (cs:List AV)
 |tup (vs:List AV)
 |ptr (id st i off:Nat)
 |pe (cs:List AV) (off:Nat)
 |vw (id st:Nat)
 |own (E:TypeId) (sz:Nat) (els:List (List AV))
 |und
 |Zbt
variable{ds es:List AV}
structure AY where
 T:TypeId
 sz:Nat
 st:Nat
 els:List (List AV)
 pl:Bool
def yY(A:Option Addr)(n c:Nat):Prop:=(A=none/\n=0/\c=0)∨∃ g off,A=some ⟨g,off,none⟩/\n<=c/\c<=maxLen
structure KW(Q:Nat->Prop)(w:World)(A:Option Addr)(n c:Nat)(E:TypeId)(sz:Nat)(els:List (List AV))(css:List (List Value)):Prop where
 row:Row w A n sz css
 blk:∀ p,A=some p->Q p.block/\∃ cur fz,w.heap[p.block]? = some (.cells cur E fz)
 ok:yY A n c
 len:css.length=els.length
 each:∀ (i:Nat) cs ds,css[i]? = some cs->els[i]? = some ds->cs.length=sz/\ds.length=sz
inductive Au(R:Nat->Prop)(w:World):Value->AV->Prop
 |bool (b:Bool):Au R w (.bool b) (.bool b)
 |int (k:IntKind) (n:Int):Au R w (.int k n) (.int k n)
 |str (s:ByteArray):Au R w (.string s) (.str s)
 |nil:Au R w (.slice none 0 0) .nil
 |sl (A:Option Addr) (n c:Nat) (E:TypeId) (sz:Nat) (els:List (List AV)) (css:List (List Value)) (h:KW R w A n c E sz els css)
   (hs:∀ (i j:Nat) cs ds v d,css[i]? = some cs->els[i]? = some ds->cs[j]? = some v->ds[j]? = some d->Au R w v d):Au R w (.slice A n c) (.sl false E sz els)
theorem Row.keep{w:World}{A:Option Addr}{n sz:Nat}{css:List (List Value)}(h:Row w A n sz css)(hk:∀ p,A=some p->w'.heap[p.block]? = w.heap[p.block]?):Row w' A n sz css :=
 ⟨h.1,fun i cs hi=>by
  obtain⟨g,off,hA,hc⟩:=h.2 i cs hi
  exact⟨g,off,hA,fun j v hv=>(World.cell?_of_block (a:=⟨g,off+i*sz+j,none⟩) (w:=w) (hk ⟨g,off,none⟩ hA)).trans (hc j v hv)⟩⟩
theorem KW.keep{Q':Nat->Prop}{w:World}{A:Option Addr}{n c:Nat}{E:TypeId}{sz:Nat}{els:List (List AV)}{css:List (List Value)}(h:KW Q w A n c E sz els css)(hk:∀ g,Q g->w'.heap[g]? = w.heap[g]?)(hQ:∀ g,Q g->Q' g):KW Q' w' A n c E sz els css :=
 ⟨h.row.keep fun p hp=>hk _ (h.blk p hp).1,fun p hp=>⟨hQ _ (h.blk p hp).1,by obtain⟨_,cur,fz,e⟩:=h.blk p hp;exact⟨cur,fz,by rw[hk _ (h.blk p hp).1];exact e⟩⟩,h.ok,h.len,h.each⟩
theorem Au.keep{R R':Nat->Prop}{w:World}(hk:∀ g,R g->w'.heap[g]? = w.heap[g]?)(hR:∀ g,R g->R' g){v:Value}{d:AV}(h:Au R w v d):Au R' w' v d:=by
 induction h with
 |bool b=>exact .bool b
 |int k n=>exact .int k n
 |str s=>exact .str s
 |nil=>exact .nil
 |sl A n c E sz els css h hs ih=>exact .sl A n c E sz els css (h.keep hk hR) ih
theorem Au.one{R:Nat->Prop}{w:World}{v:Value}{d:AV}(h:Au R w v d):v.oneCell'=true:=by cases h<;>rfl
structure Mem where
 w0:World
 F:Nat->Prop
 loc:Nat->Option Addr×Nat
 bx:Nat->Option AY
def Mem.M(m:Mem)(g:Nat):Prop:=∃ id b,m.bx id=some b/\ob (m.loc id).1=some g
def Mem.S(m:Mem)(w:World)(g:Nat):Prop:=g<w.heap.size/\¬ m.M g
def Mem.R(m:Mem)(w:World)(g:Nat):Prop:=m.S w g/\(g<m.w0.heap.size->m.F g)
def BB(m:Mem)(w:World)(v:Value):AV->Prop
 |.sl true E sz els=>∃ A n c css,v=.slice A n c/\KW (m.S w) w A n c E sz els css/\∀ (i j:Nat) cs ds x d,css[i]? = some cs->els[i]? = some ds->cs[j]? = some x->ds[j]? = some d->Au (m.R w) w x d
 |.vw id st=>(∃ A n c,v=.slice A n c)/\∀ b,m.bx id=some b->b.st=st->v=.slice (m.loc id).1 b.els.length (m.loc id).2
 |d=>Au (m.R w) w v d
structure BF(m:Mem)(w:World)(vs:List Value)(ds:List AV):Prop where
 len:vs.length=ds.length
 at_:∀ (j:Nat) v d,vs[j]? = some v->ds[j]? = some d->BB m w v d
def Ez(m:Mem)(w:World)(v:Value):AV->Prop
 |.agg cs=>∃ vs:List Value,v=.agg vs.toArray/\BF m w vs cs
 |d=>BB m w v d
def XQ(m:Mem)(w:World)(v:Value):AV->Prop
 |.ptr id st i off=>∀ b,m.bx id=some b->b.st=st->∃ g,(m.loc id).1=some ⟨g,0,none⟩/\v=.pointer (some ⟨g,i*b.sz+off,none⟩)
 |.pe cs off=>∃ (g base:Nat) (vs:List Value),v=.pointer (some ⟨g,base+off,none⟩)/\m.S w g/\(∀ (j:Nat) x,vs[j]? = some x->w.cell? ⟨g,base+j,none⟩=some x)/\vs.length=cs.length/\∀ (j:Nat) x d,vs[j]? = some x->cs[j]? = some d->Au (m.R w) w x d
 |.tup ds=>∃ vs:List Value,v=.tuple vs.toArray/\vs.length=ds.length/\∀ (j:Nat) x d,vs[j]? = some x->ds[j]? = some d->Ez m w x d
 |.und=>v=undef
 |.Zbt=>True
 |d=>Ez m w v d
def Bu(U:Nat->Prop):AV->Prop
 |.vw _ st=>U st
 |_=>True
def G8(U:Nat->Prop):AV->Prop
 |.agg cs=>∀ c∈cs,Bu U c
 |d=>Bu U d
def okV(U:Nat->Prop):AV->Prop
 |.ptr _ st _ _=>U st
 |.tup ds=>∀ d∈ds,G8 U d
 |d=>G8 U d
structure Cj(U:Nat->Prop)(m:Mem)(w:World)(m':Mem)(w':World):Prop where
 w0:m'.w0=m.w0
 F:m'.F=m.F
 S:∀ g,m.S w g->w'.heap[g]? = w.heap[g]?/\m'.S w' g
 bx:∀ id b',m'.bx id=some b'->U b'.st->∃ b,m.bx id=some b/\b.st=b'.st/\m'.loc id=m.loc id/\b'.sz=b.sz/\b'.els.length=b.els.length
section
variable{U:Nat->Prop}{m m':Mem}{w w':World}
theorem Cj.R(h:Cj U m w m' w')(g:Nat)(hg:m.R w g):m'.R w' g:=⟨(h.S g hg.1).2,fun hl=>by rw[h.F];exact hg.2 (by rw[<- h.w0];exact hl)⟩
theorem Cj.Dc(h:Cj U m w m' w'){v:Value}{d:AV}(r:Au (m.R w) w v d):Au (m'.R w') w' v d:=r.keep (fun g hg=>(h.S g hg.1).1) h.R
theorem Cj.DI(h:Cj U m w m' w'){v:Value}{d:AV}(r:BB m w v d)(hu:Bu U d):BB m' w' v d:=by
 cases d with
 |sl ns E sz els =>
  cases ns with
  |false=>exact h.Dc r
  |true =>
   obtain⟨A,n,c,css,rfl,h1,h2⟩:=r;exact⟨A,n,c,css,rfl,h1.keep (fun g hg=>(h.S g hg).1) (fun g hg=>(h.S g hg).2),fun i j cs ds x d a b c e=>h.Dc (h2 i j cs ds x d a b c e)⟩
 |vw id st =>
  refine⟨r.1,fun b' hb' hst=>?_⟩;obtain⟨b,e1,e2,e3,e4,e5⟩:=h.bx id b' hb' (by rw[hst];exact hu);rw[e3,e5];exact r.2 b e1 (by rw[e2,hst])
 |_=>exact h.Dc r
theorem Cj.EE(h:Cj U m w m' w')(r:BF m w vs ds)(hu:∀ d∈ds,Bu U d):BF m' w' vs ds:=⟨r.len,fun j v d a b=>h.DI (r.at_ j v d a b) (hu d (Z6 b))⟩
theorem Cj.GA(h:Cj U m w m' w'){v:Value}{d:AV}(r:Ez m w v d)(hu:G8 U d):Ez m' w' v d:=by
 cases d with
 |agg cs =>
  obtain⟨vs,rfl,r⟩:=r;exact⟨vs,rfl,h.EE r hu⟩
 |bool b=>exact h.DI (d:=.bool b) r hu
 |int k n=>exact h.DI (d:=.int k n) r hu
 |str s=>exact h.DI (d:=.str s) r hu
 |nil=>exact h.DI (d:=.nil ) r hu
 |sl ns E sz els=>exact h.DI (d:=.sl ns E sz els) r hu
 |tup vs=>exact h.DI (d:=.tup vs) r hu
 |ptr id st i off=>exact h.DI (d:=.ptr id st i off) r hu
 |pe cs off=>exact h.DI (d:=.pe cs off) r hu
 |vw id st=>exact h.DI (d:=.vw id st) r hu
 |own E sz els=>exact h.DI (d:=.own E sz els) r hu
 |und=>exact h.DI (d:=.und ) r hu
 |Zbt=>exact h.DI (d:=.Zbt ) r hu
theorem Cj.Ht(h:Cj U m w m' w'){v:Value}{d:AV}(r:XQ m w v d)(hu:okV U d):XQ m' w' v d:=by
 cases d with
 |ptr id st i off =>
  intro b' hb' hst;obtain⟨b,e1,e2,e3,e4,e5⟩:=h.bx id b' hb' (by rw[hst];exact hu);obtain⟨g,hg,hv⟩:=r b e1 (by rw[e2,hst]);exact⟨g,by rw[e3];exact hg,by rw[e4];exact hv⟩
 |pe cs off =>
  obtain⟨g,base,vs,rfl,hS,hc,hl,hr⟩:=r;exact⟨g,base,vs,rfl,(h.S g hS).2,fun j x hx=>(World.cell?_of_block (a:=⟨g,base+j,none⟩) (w:=w) (h.S g hS).1).trans (hc j x hx),hl,fun j x d a b=>h.Dc (hr j x d a b)⟩
 |tup ds =>
  obtain⟨vs,rfl,hl,hr⟩:=r;exact⟨vs,rfl,hl,fun j x d a b=>h.GA (hr j x d a b) (hu d (Z6 b))⟩
 |und=>exact r
 |Zbt=>trivial
 |bool b=>exact h.GA (d:=.bool b) r hu
 |int k n=>exact h.GA (d:=.int k n) r hu
 |str s=>exact h.GA (d:=.str s) r hu
 |nil=>exact h.GA (d:=.nil ) r hu
 |sl ns E sz els=>exact h.GA (d:=.sl ns E sz els) r hu
 |agg cs=>exact h.GA (d:=.agg cs) r hu
 |vw id st=>exact h.GA (d:=.vw id st) r hu
 |own E sz els=>exact h.GA (d:=.own E sz els) r hu
theorem Cj.refl(U:Nat->Prop)(m:Mem)(w:World):Cj U m w m w:=⟨rfl,rfl,fun g h=>⟨rfl,h⟩,fun id b h _=>⟨b,h,rfl,rfl,rfl,rfl⟩⟩
theorem Cj.trans{m1:Mem}(h:Cj U m w m1 w1)(k:Cj U m1 w1 m' w'):Cj U m w m' w':=⟨k.w0.trans h.w0,k.F.trans h.F,fun g hg=>by
  obtain⟨a,b⟩:=h.S g hg
  obtain⟨c,d⟩:=k.S g b
  exact⟨c.trans a,d⟩,fun id b' hb hU=>by
  obtain⟨b1,e1,e2,e3,e4,e5⟩:=k.bx id b' hb hU
  obtain⟨b0,f1,f2,f3,f4,f5⟩:=h.bx id b1 e1 (by rw[e2];exact hU)
  exact⟨b0,f1,f2.trans e2,e3.trans f3,e4.trans f4,e5.trans f5⟩⟩
theorem Cj.mono(h:Cj U m w m' w')(hU:∀ s,U' s->U s):Cj U' m w m' w':=⟨h.w0,h.F,h.S,fun id b' hb hu=>h.bx id b' hb (hU _ hu)⟩
theorem BB.one{v:Value}{d:AV}(r:BB m w v d):v.oneCell'=true:=by
 cases d with
 |sl ns E sz els =>
  cases ns with
  |false=>exact Au.one r
  |true=>obtain⟨A,n,c,css,rfl,_⟩:=r;rfl
 |vw id st=>obtain⟨⟨A,n,c,rfl⟩,_⟩:=r;rfl
 |_=>exact Au.one r
theorem BF.one(r:BF m w vs ds):∀ v∈vs,v.oneCell'=true:=fun v hv=>by
 obtain⟨j,hj,rfl⟩:=List.getElem_of_mem hv
 exact BB.one (r.at_ j _ (ds[j]'(by rw[<- r.len];exact hj)) (Z4 hj) (Z4 _))
end
structure AS where
 env:Nat->AV
 box:Nat->Option AY
 clk:Nat
 n:Nat
def AS.set(σ:AS)(t:Nat)(v:AV):AS:={ σ with env:=fun t'=>if t'=t then v else σ.env t' }
def AS.put(σ:AS)(d:Option Tmp)(v:AV):AS:=match d with|some t=>σ.set t v|none=>σ
def AS.DT(σ:AS)(fz:List Nat):AS:={ σ with box:=fun id=>if fz.contains id then none else σ.box id }
def AS.Bc(σ:AS)(p:Nat×AY):AS:={ σ with box:=fun id'=>if id'=p.1 then some p.2 else σ.box id' }
structure DU(U:Nat->Prop)(m:Mem)(w:World)(id:Nat)(b:AY):Prop where
 own:∃ css,Own w m.w0.heap.size b.T b.sz (m.loc id).1 b.els.length (m.loc id).2 css/\∀ (i:Nat) cs ds,css[i]? = some cs->b.els[i]? = some ds->ds.length=b.sz/\BF m w cs ds/\(b.pl=true->∀ (j:Nat) v d,cs[j]? = some v->ds[j]? = some d->Au (m.R w) w v d)
 st:U b.st
 ok:∀ ds∈b.els,∀ d∈ds,Bu U d
structure B5(U:Nat->Prop)(σ:AS)(m:Mem)(a:Act)(w:World):Prop where
 bx:m.bx=σ.box
 below:Below m.w0.heap.size m.w0 w
 defers:a.defers=[]
 size:a.tmps.size=σ.n
 slots:∀ t,XQ m w (a.tmps.getD t undef) (σ.env t)
 ok:∀ t,okV U (σ.env t)
 boxes:∀ id b,σ.box id=some b->DU U m w id b
 inj:∀ id id' b b' g,σ.box id=some b->σ.box id'=some b'->ob (m.loc id).1=some g->ob (m.loc id').1=some g->id=id'
def AB(P:Program)(T:TypeId):Nat:=((P.info? T).map (·.size)).getD 0
def EI(P:Program)(T:TypeId):Nat:=((P.info? T).map (·.bytes)).getD 0
def JZ(P:Program)(T:TypeId):Option Bool:=match P.underlying T with
 |some (.struct _)| some (.array _ _)=>some true
 |some _=>some false
 |none=>none
def E4(P:Program)(T:TypeId):Option TypeId:=match P.underlying T with|some (.slice e)=>some e|_=>none
def Fz(P:Program)(T:TypeId):Option (Nat×TypeId):=match P.underlying T with|some (.array n e)=>some (n,e)| _=>none
def Rn(P:Program)(T:TypeId):Bool:=match P.underlying T with|some .string=>true|_=>false
def Du(P:Program)(T:TypeId)(f:Nat):Option (Nat×Nat):=match P.underlying T with
 |some (.struct fs)=>(fs[f]?).map fun x=>(x.offset,AB P x.type)
 |_=>none
def Rp(P:Program)(T:TypeId):Option IntKind:=match P.underlying T with|some (.int k)=>some k|_=>none
def V9(P:Program)(T:TypeId):Bool:=match P.underlying T with|some .bool=>true|_=>false
def MV:Value->AV
 |.bool b=>.bool b
 |.int k n=>.int k n
 |.string s=>.str s
 |.slice none 0 0=>.nil
 |_=>.Zbt
def Dj:AV->Bool
 |.bool _|.int _ _|.str _|.nil|.sl false _ _ _=>true
 |_=>false
def KY:AV->Bool
 |.bool _|.int _ _|.str _|.nil|.sl _ _ _ _|.vw _ _=>true
 |_=>false
def YZ(P:Program)(T:TypeId):Option (List AV):=((P.info? T).bind (·.zero)).map fun v=>v.cells.toList.map MV
def KZ(P:Program)(T:TypeId):Option (List (Nat×Nat)):=match P.underlying T with
 |some (.struct fs)=>fs.toList.mapM fun f=>(P.info? f.type).map fun i=>(f.offset,i.size)
 |_=>none
def MW(k:IntKind)(n:Int):Prop:=k.wrap n=n
theorem Zpe{n:Int}(h:-9223372036854775808<=n)(h':n<=9223372036854775807):MW .i64 n:=IntWalk.i64_in _ o_
theorem Rq{n:Int}(h:0<=n)(h':n<18446744073709551616):MW .u64 n:=by
 unfold MW IntKind.wrap;simp only[IntKind.bits,IntKind.signed,Bool.false_and,Bool.false_eq_true,if_false];exact Int.emod_eq_of_lt h o_
structure Eff where
 val:AV
 bx:Option (Nat×AY)
 rd:List Nat
 rs:List Nat
 cw:Bool
 fz:List Nat
 bs:List (Nat×AY)
structure Pl where
 ok:Prop
 e:Eff
def Az(env:Nat->AV):Operand->AV
 |.tmp t=>env t
 |.const v=>MV v
 |_=>.Zbt
def Tu(env:Nat->AV):Option Operand->AV
 |none=>.int .i64 0
 |some l=>Az env l
def Tv(env:Nat->AV):Option Operand->AV
 |none=>.und
 |some l=>Az env l
def P4:AV->Option (List AV)
 |.agg cs=>some cs
 |.bool b=>some [.bool b]
 |.int k n=>some [.int k n]
 |.str s=>some [.str s]
 |.nil=>some [.nil]
 |.sl ns E sz els=>some [.sl ns E sz els]
 |.vw id st=>some [.vw id st]
 |_=>none
def NV(agg:Bool)(n:Nat)(cs:List AV):AV:=if agg then .agg (cs.take n)else cs.headD .Zbt
def JF(cs:List AV)(off:Nat)(vs:List AV):List AV:=cs.take off++(vs++cs.drop (off+vs.length))
def Tw(fld:Nat->Option (Nat×Nat)):List AV->List (Nat×AV)->Option (List AV)
 |cs,[]=>some cs
 |cs,(i,v):: r=>match fld i,P4 v with
  |some (off,sz),some vs=>if vs.length=sz/\off+sz<=cs.length then Tw fld (JF cs off vs) r else none
  |_,_=>none
def G9(box:Nat->Option AY):AV->AV
 |.vw id _=>match box id with|some b=>.sl false b.T b.sz b.els|none=>.Zbt
 |d=>d
def NW(box:Nat->Option AY):AV->Prop
 |.vw id st=>match box id with|some b=>b.st=st/\b.pl=true|none=>False
 |_=>True
def EJ:AV->List Nat
 |.vw id _=>[id]
 |_=>[]
def Tx:List AV->Option (List (List AV))
 |[]=>some []
 |v::r=>match P4 v,Tx r with
  |some cs,some l=>some (cs::l)
  |_,_=>none
def L5(v:AV):Option Pl:=some ⟨True,⟨v,none,[],[],true,[],[]⟩⟩
def Ty(op:BinOp)(k:IntKind)(a b:Int):Option (Prop×AV):=
 match op with
 |.add=>some (MW k (a+b),.int k (a+b))
 |.sub=>some (MW k (a-b),.int k (a-b))
 |.mul=>some (MW k (a*b),.int k (a*b))
 |.quo=>some (b≠0/\MW k (a.tdiv b),.int k (a.tdiv b))
 |.rem=>some (b≠0,.int k (a.tmod b))
 |.eql=>some (True,.bool (a == b))
 |.neq=>some (True,.bool (a != b))
 |.lss=>some (True,.bool (decide (a<b)))
 |.leq=>some (True,.bool (decide (a<=b)))
 |.gtr=>some (True,.bool (decide (b<a)))
 |.geq=>some (True,.bool (decide (b<=a)))
 |.shr=>some (0<=b,.int k (a.fdiv (2 ^ min b.toNat k.bits)))
 |.shl=>some (0<=b/\MW k (a*2 ^ min b.toNat k.bits),.int k (a*2 ^ min b.toNat k.bits))
 |.and=>some (True,.int k (k.wrap (BitVec.ofInt k.bits a &&& BitVec.ofInt k.bits b).toNat))
 |_=>none
def Km(P:Program)(o:Oper)(st:Nat)(env:Nat->AV)(box:Nat->Option AY):Option Pl :=
 match o.op with
 |.move x=>L5 (Az env x)
 |.assign x=>L5 (Az env x)
 |.pick c x y=>match Az env c with
  |.bool b=>L5 (if b then Az env x else Az env y)
  |_=>none
 |.alloc T=>match o.dst,YZ P T with
  |some d,some zs=>some ⟨0<AB P T/\zs.length=AB P T/\zs.all Dj=true,⟨.ptr d st 0 0,some (d,⟨T,AB P T,st,[zs],false⟩),[],[],false,[],[]⟩⟩
  |_,_=>none
 |.box T x=>match o.dst,P4 (Az env x)with
  |some d,some cs=>some ⟨0<AB P T/\cs.length=AB P T/\cs.all KY=true,⟨.ptr d st 0 0,some (d,⟨T,AB P T,st,[cs],false⟩),[],[],false,[],[]⟩⟩
  |_,_=>none
 |.load T x=>match JZ P T,Az env x with
  |some g,.ptr id s i off=>match box id with
   |some b=>match b.els[i]? with
    |some cs=>some ⟨b.st=s/\0<AB P T/\off+AB P T<=cs.length/\(g=true∨AB P T=1),⟨NV g (AB P T) (cs.drop off),none,[id],[],true,[],[]⟩⟩
    |none=>none
   |none=>none
  |some g,.pe cs off=>some ⟨0<AB P T/\off+AB P T<=cs.length/\(g=true∨AB P T=1),⟨NV g (AB P T) (cs.drop off),none,[],[],true,[],[]⟩⟩
  |_,_=>none
 |.store T x v=>match Az env x,P4 (Az env v)with
  |.ptr id s i off,some vs=>match box id with
   |some b=>match b.els[i]? with
    |some cs=>some ⟨b.st=s/\vs.length=AB P T/\0<AB P T/\off+vs.length<=cs.length/\vs.all KY=true/\(b.pl=true->vs.all Dj=true),⟨.und,some (id,⟨b.T,b.sz,b.st,b.els.set i (JF cs off vs),b.pl⟩),[id],[],true,[],[]⟩⟩
    |none=>none
   |none=>none
  |_,_=>none
 |.fieldAddr T x f=>match Du P T f,Az env x with
  |some (fo,fs),.ptr id s i off=>match box id with
   |some b=>some ⟨b.st=s/\fs≠0,⟨.ptr id s i (off+fo),none,[],[id],true,[],[]⟩⟩
   |none=>none
  |some (fo,fs),.pe cs off=>some ⟨fs≠0,⟨.pe cs (off+fo),none,[],[],true,[],[]⟩⟩
  |_,_=>none
 |.index T x ix=>match Az env ix,Az env x with
  |.int _ n,.str s=>match s[n.toNat]? with
   |some c=>some ⟨0<=n/\Rn P T=true,⟨.int .u8 c.toNat,none,[],[],true,[],[]⟩⟩
   |none=>none
  |.int _ n,.agg cs=>match Fz P T with
   |some (len,E)=>match JZ P E with
    |some g=>some ⟨0<=n/\n<len/\0<AB P E/\n.toNat*AB P E+AB P E<=cs.length/\(g=true∨AB P E=1),⟨NV g (AB P E) (cs.drop (n.toNat*AB P E)),none,[],[],true,[],[]⟩⟩
    |none=>none
   |none=>none
  |_,_=>none
 |.indexAddr T x ix=>match Fz P T with
  |some (len,E)=>match Az env ix,Az env x with
   |.int _ n,.ptr id s i off=>match box id with
    |some b=>some ⟨b.st=s/\0<=n/\n<len/\0<AB P E,⟨.ptr id s i (off+n.toNat*AB P E),none,[],[id],true,[],[]⟩⟩
    |none=>none
   |.int _ n,.pe cs off=>some ⟨0<=n/\n<len/\0<AB P E,⟨.pe cs (off+n.toNat*AB P E),none,[],[],true,[],[]⟩⟩
   |_,_=>none
  |none=>match E4 P T,Az env ix,Az env x with
   |some E,.int _ n,.sl _ _ sz els=>match els[n.toNat]? with
    |some cs=>some ⟨0<=n/\AB P E=sz/\0<sz,⟨.pe cs 0,none,[],[],true,[],[]⟩⟩
    |none=>none
   |some E,.int _ n,.vw id s=>match box id with
    |some b=>some ⟨b.st=s/\0<=n/\n.toNat<b.els.length/\AB P E=b.sz/\0<b.sz,⟨.ptr id s n.toNat 0,none,[],[id],true,[],[]⟩⟩
    |none=>none
   |_,_,_=>none
 |.build T parts=>match YZ P T,KZ P T with
  |some zs,some pl=>match Tw (fun i=>pl[i]?) zs (parts.toList.map fun p=>(p.1,Az env p.2))with
   |some cs=>some ⟨zs.all Dj=true,⟨.agg cs,none,[],[],true,[],[]⟩⟩
   |none=>none
  |_,_=>none
 |.buildSlice T len parts=>match o.dst,E4 P T with
  |some d,some E=>match YZ P E,Tx (parts.toList.map fun p=>Az env p.2)with
   |some zs,some els=>some ⟨0<AB P E/\zs.length=AB P E/\parts.toList.map (·.1)=List.range len/\len*AB P E<=16777216/\(∀ cs∈els,∀ c∈cs,NW box c)/\(∀ cs∈els,cs.length=AB P E/\(cs.map (G9 box)).all Dj=true),⟨.vw d st,some (d,⟨E,AB P E,st,els.map fun cs=>cs.map (G9 box),true⟩),els.flatMap fun cs=>cs.flatMap EJ,[],false,els.flatMap fun cs=>cs.flatMap EJ,[]⟩⟩
   |_,_=>none
  |_,_=>none
 |.extract x k=>match Az env x with
  |.tup vs=>match vs[k]? with
   |some v=>L5 v
   |none=>none
  |_=>none
 |.unOp op _ x=>match op,Az env x with
  |.not,.bool b=>L5 (.bool (!b))
  |.neg,.int k n=>some ⟨MW k (-n),⟨.int k (-n),none,[],[],true,[],[]⟩⟩
  |_,_=>none
 |.binOp op T x y _=>match Az env x,Az env y with
  |.int k a,.int k' b=>match Ty op k a b with
   |some (p,v)=>some ⟨k=k'/\p,⟨v,none,[],[],true,[],[]⟩⟩
   |none=>none
  |.str a,.str b=>match op with
   |.eql=>L5 (.bool (a.toList == b.toList))
   |.neq=>L5 (.bool (!(a.toList == b.toList)))
   |.add=>some ⟨a.size+b.size<=9223372036854775807,⟨.str (a++b),none,[],[],true,[],[]⟩⟩
   |_=>none
  |.bool a,.bool b=>match op,V9 P T with
   |.eql,true=>L5 (.bool (a == b))
   |.neq,true=>L5 (.bool (!(a == b)))
   |_,_=>none
  |_,_=>none
 |.convert s t x=>match Rp P s,Rp P t,Az env x with
  |some _,some k,.int _ n=>L5 (.int k (k.wrap n))
  |_,_,_=>none
 |.slice T x lo hi mx=>match mx,E4 P T,Az env x,Tu env lo,Tv env hi with
  |none,none,.str s,.int _ l,h=>match h with
   |.und=>some ⟨0<=l/\l<=s.size/\Rn P T=true/\hi=none,⟨.str (s.extract l.toNat s.size),none,[],[],true,[],[]⟩⟩
   |.int _ n=>some ⟨0<=l/\l<=n/\n<=s.size/\Rn P T=true,⟨.str (s.extract l.toNat n.toNat),none,[],[],true,[],[]⟩⟩
   |_=>none
  |none,some E,.vw id s,.int _ l,h=>match box id with
   |some b=>match h with
    |.und=>some ⟨b.st=s/\b.pl=true/\0<=l/\l<=b.els.length/\AB P E=b.sz/\0<b.sz/\hi=none,⟨.sl false b.T b.sz (b.els.drop l.toNat),none,[id],[],true,[id],[]⟩⟩
    |.int _ n=>some ⟨b.st=s/\b.pl=true/\0<=l/\l<=n/\n<=b.els.length/\AB P E=b.sz/\0<b.sz,⟨.sl false b.T b.sz ((b.els.take n.toNat).drop l.toNat),none,[id],[],true,[id],[]⟩⟩
    |_=>none
   |none=>none
  |none,some E,.sl ns E' sz els,.int _ l,h=>match h with
   |.und=>some ⟨0<=l/\l<=els.length/\AB P E=sz/\0<sz/\hi=none,⟨.sl ns E' sz (els.drop l.toNat),none,[],[],true,[],[]⟩⟩
   |.int _ n=>some ⟨0<=l/\l<=n/\n<=els.length/\AB P E=sz/\0<sz,⟨.sl ns E' sz ((els.take n.toNat).drop l.toNat),none,[],[],true,[],[]⟩⟩
   |_=>none
  |_,_,_,_,_=>none
 |.makeSlice T l c=>match o.dst,E4 P T,Az env l,Az env c with
  |some d,some E,.int _ n,.int _ n'=>match YZ P E with
   |some zs=>some ⟨n=n'/\0<=n/\n*EI P E<=281474976710656/\n<=maxLen/\0<AB P E/\zs.length=AB P E/\zs.all Dj=true,⟨.vw d st,some (d,⟨E,AB P E,st,List.replicate n.toNat zs,true⟩),[],[],false,[],[]⟩⟩
   |none=>none
  |_,_,_,_=>none
 |.call c=>match c.callee,c.args.toList,c.argTypes.toList with
  |.builtin .len,[x],[T]=>match Az env x with
   |.sl _ _ _ els=>some ⟨(E4 P T).isSome=true,⟨.int .i64 els.length,none,[],[],true,[],[]⟩⟩
   |.nil=>some ⟨(E4 P T).isSome=true,⟨.int .i64 0,none,[],[],true,[],[]⟩⟩
   |.vw id s=>match box id with
    |some b=>some ⟨b.st=s/\(E4 P T).isSome=true,⟨.int .i64 b.els.length,none,[],[id],true,[],[]⟩⟩
    |none=>none
   |.str s=>some ⟨P.underlying T=some .string,⟨.int .i64 s.size,none,[],[],true,[],[]⟩⟩
   |_=>none
  |.builtin .min,[x,y],_=>match Az env x,Az env y with
   |.int k a,.int _ b=>L5 (.int k (if b<a then b else a))
   |_,_=>none
  |.builtin .max,[x,y],_=>match Az env x,Az env y with
   |.int k a,.int _ b=>L5 (.int k (if a<b then b else a))
   |_,_=>none
  |.builtin .append,[x,y],[T,T']=>match o.dst,E4 P T,Az env x with
   |some d,some E,.nil=>match Az env y with
    |.sl _ E' L6 Dv=>some ⟨T'=T/\E'=E/\L6=AB P E/\0<AB P E/\(YZ P E).map (·.length)=some (AB P E)/\Dv.length*EI P E<=140737488355328/\Dv.length<=maxLen,⟨.vw d st,some (d,⟨E,AB P E,st,Dv,true⟩),[],[],false,[],[]⟩⟩
    |.vw id' s'=>match box id' with
     |some b'=>some ⟨T'=T/\b'.st=s'/\b'.pl=true/\b'.T=E/\b'.sz=AB P E/\0<AB P E/\(YZ P E).map (·.length)=some (AB P E)/\b'.els.length*EI P E<=140737488355328/\b'.els.length<=maxLen/\id'≠d,⟨.vw d st,some (d,⟨E,AB P E,st,b'.els,true⟩),[id'],[],false,[],[]⟩⟩
     |none=>none
    |_=>none
   |some d,some E,.vw id s=>match box id,Az env y with
    |some b,.sl _ E' L6 Dv=>some ⟨T'=T/\b.st=s/\b.pl=true/\b.T=E/\E'=E/\b.sz=AB P E/\L6=AB P E/\0<AB P E/\(YZ P E).map (·.length)=some (AB P E)/\(b.els.length+Dv.length)* EI P E<=140737488355328/\b.els.length+Dv.length<=maxLen,⟨.vw id st,some (id,⟨E,AB P E,st,b.els++Dv,true⟩),[id],[],false,[],[]⟩⟩
    |some b,.nil=>some ⟨T'=T/\b.st=s/\b.pl=true/\b.T=E/\b.sz=AB P E/\0<AB P E/\(YZ P E).map (·.length)=some (AB P E)/\b.els.length*EI P E<=140737488355328/\b.els.length<=maxLen,⟨.vw id st,some (id,⟨E,AB P E,st,b.els,true⟩),[id],[],false,[],[]⟩⟩
    |some b,.vw id' s'=>match box id' with
     |some b'=>some ⟨T'=T/\b.st=s/\b.pl=true/\b.T=E/\b.sz=AB P E/\b'.st=s'/\b'.pl=true/\b'.T=E/\b'.sz=AB P E/\0<AB P E/\(YZ P E).map (·.length)=some (AB P E)/\(b.els.length+b'.els.length)* EI P E<=140737488355328/\b.els.length+b'.els.length<=maxLen/\id'≠id,⟨.vw id st,some (id,⟨E,AB P E,st,b.els++b'.els,true⟩),[id,id'],[],false,[],[]⟩⟩
     |none=>none
    |_,_=>none
   |_,_,_=>none
  |_,_,_=>none
 |_=>none
section
variable{P:Program}{U:Nat->Prop}{σ:AS}{m:Mem}{a:Act}{w:World}
theorem Zhz(l:Array Value)(d t:Nat)(v:Value)(ht:d<l.size):(l.setIfInBounds d v).getD t undef=if t=d then v else l.getD t undef:=by
 simp only[Array.getD_eq_getD_getElem?,Array.getElem?_setIfInBounds];by_cases h:t=d
 .subst h;simp[ht]
 .rw[if_neg h,if_neg (fun e=>h e.symm)]
theorem Bu.mono(hU:∀ s,U s->U' s){d:AV}(h:Bu U d):Bu U' d:=by cases d<;>first|exact hU _ h|trivial
theorem G8.mono(hU:∀ s,U s->U' s){d:AV}(h:G8 U d):G8 U' d:=by
 cases d
 case agg cs=>exact fun c hc=>Bu.mono hU (h c hc)
 case vw id st=>exact hU _ h
 all_goals trivial
theorem okV.mono(hU:∀ s,U s->U' s){d:AV}(h:okV U d):okV U' d:=by
 cases d
 case agg cs=>exact fun c hc=>Bu.mono hU (h c hc)
 case vw id st=>exact hU _ h
 case ptr id st i off=>exact hU _ h
 case tup ds=>exact fun d hd=>G8.mono hU (h d hd)
 all_goals trivial
theorem DU.mono(hU:∀ s,U s->U' s){id:Nat}{b:AY}(h:DU U m w id b):DU U' m w id b:=⟨h.own,hU _ h.st,fun ds hd d hdd=>Bu.mono hU (h.ok ds hd d hdd)⟩
theorem B5.mono(h:B5 U σ m a w)(hU:∀ s,U s->U' s):B5 U' σ m a w:=⟨h.bx,h.below,h.defers,h.size,h.slots,fun t=>okV.mono hU (h.ok t),fun id b e=>(h.boxes id b e).mono hU,h.inj⟩
theorem B5.clk(h:B5 U σ m a w)(c:Nat):B5 U { σ with clk:=c } m a w:=⟨h.bx,h.below,h.defers,h.size,h.slots,h.ok,h.boxes,h.inj⟩
theorem B5.put(h:B5 U σ m a w){v:Value}{d:AV}(r:XQ m w v d)(hu:okV U d)(dst:Option Tmp)(hd:∀ t,dst=some t->t<σ.n):B5 U (σ.put dst d) m (a.put dst v) w:=by
 cases dst with
 |none=>exact h
 |some t0 =>
  refine⟨h.bx,h.below,h.defers,?_,fun t=>?_,fun t=>?_,h.boxes,h.inj⟩
  .show(a.tmps.setIfInBounds t0 v).size=σ.n;simpa using h.size
  .show XQ m w ((a.tmps.setIfInBounds t0 v).getD t undef) (if t=t0 then d else σ.env t);rw[Zhz _ _ _ _ (by rw[h.size];exact hd t0 rfl)];split
   .exact r
   .exact h.slots t
  .show okV U (if t=t0 then d else σ.env t);split
   .exact hu
   .exact h.ok t
theorem ZpS(U:Nat->Prop)(v:Value):okV U (MV v):=by
 unfold MV;split<;>trivial
theorem ZmW(m:Mem)(w:World)(v:Value):XQ m w v (MV v):=by
 unfold MV;split
 .exact Au.bool _
 .exact Au.int _ _
 .exact Au.str _
 .exact Au.nil
 .trivial
theorem ZkM(m:Mem)(w:World)(v:Value)(h:Dj (MV v)=true):Au (m.R w) w v (MV v):=by
 revert h;unfold MV;split<;>intro h
 .exact Au.bool _
 .exact Au.int _ _
 .exact Au.str _
 .exact Au.nil
 .cases h
theorem B5.Az(h:B5 U σ m a w)(x:Operand):XQ m w (a.eval x) (Az σ.env x)/\okV U (Az σ.env x):=by
 cases x with
 |tmp t=>exact⟨h.slots t,h.ok t⟩
 |const v=>exact⟨ZmW m w v,ZpS U v⟩
 |global g=>exact⟨trivial,trivial⟩
 |func f=>exact⟨trivial,trivial⟩
theorem Jt{v:Value}{b:Bool}(r:XQ m w v (.bool b)):v=.bool b:=by cases (show Au (m.R w) w v (.bool b)from r);rfl
theorem Q4{v:Value}{k:IntKind}{n:Int}(r:XQ m w v (.int k n)):v=.int k n:=by cases (show Au (m.R w) w v (.int k n)from r);rfl
theorem Tz{v:Value}{s:ByteArray}(r:XQ m w v (.str s)):v=.string s:=by cases (show Au (m.R w) w v (.str s)from r);rfl
theorem TA{v:Value}(r:XQ m w v .nil):v=.slice none 0 0:=by cases (show Au (m.R w) w v .nil from r);rfl
theorem Va{v:Value}{ns:Bool}{E:TypeId}{sz:Nat}{els:List (List AV)}(r:XQ m w v (.sl ns E sz els)):
  ∃ A n c css,v=.slice A n c/\KW (m.S w) w A n c E sz els css/\(ns=false->KW (m.R w) w A n c E sz els css)/\∀ (i j:Nat) cs ds x d,css[i]? = some cs->els[i]? = some ds->cs[j]? = some x->ds[j]? = some d->Au (m.R w) w x d:=by
 cases ns with
 |true =>
  obtain⟨A,n,c,css,h1,h2,h3⟩:=r;exact⟨A,n,c,css,h1,h2,(fun e=>by cases e),h3⟩
 |false =>
  cases (show Au (m.R w) w v (.sl false E sz els)from r)with
  |sl A n c _ _ _ css h hs=>exact⟨A,n,c,css,rfl,h.keep (fun _ _=>rfl) (fun g hg=>hg.1),fun _=>h,hs⟩
theorem KW.lens{A:Option Addr}{n c:Nat}{E:TypeId}{sz:Nat}{els:List (List AV)}{css:List (List Value)}(h:KW Q w A n c E sz els css):els.length=n:=by rw[<- h.len,h.row.1]
theorem BF.nil :BF m w [] []:=⟨rfl,s_⟩
theorem JU{v:Value}{d:AV}(h:BB m w v d):BF m w [v] [d]:=⟨rfl,fun j x y hx hy=>by
 cases j with
 |zero=>simp at hx hy;subst hx;subst hy;exact h
 |succ j=>simp at hx⟩
theorem BF.append(h:BF m w vs ds)(k:BF m w us es):BF m w (vs++us) (ds++es):=⟨by rw[List.length_append,List.length_append,h.len,k.len],fun j x y hx hy=>by
 rcases Nat.lt_or_ge j vs.length with hj|hj
 .rw[List.getElem?_append_left hj]at hx
  rw[List.getElem?_append_left (by rw[<- h.len];exact hj)]at hy
  exact h.at_ j x y hx hy
 .rw[List.getElem?_append_right hj]at hx
  rw[List.getElem?_append_right (by rw[<- h.len];exact hj),<- h.len]at hy
  exact k.at_ _ x y hx hy⟩
theorem BF.take(h:BF m w vs ds)(n:Nat):BF m w (vs.take n) (ds.take n):=⟨by rw[List.length_take,List.length_take,h.len],fun j x y hx hy=>by
 rw[List.getElem?_take]at hx hy
 split at hx
 .rename_i hj;rw[if_pos hj]at hy;exact h.at_ j x y hx hy
 .cases hx⟩
theorem BF.drop(h:BF m w vs ds)(n:Nat):BF m w (vs.drop n) (ds.drop n):=⟨by rw[List.length_drop,List.length_drop,h.len],fun j x y hx hy=>by
 rw[List.getElem?_drop]at hx hy
 exact h.at_ _ x y hx hy⟩
theorem BF.splice(h:BF m w vs ds)(k:BF m w us es)(off:Nat):BF m w (vs.take off++(us++vs.drop (off+us.length))) (JF ds off es):=by
 unfold JF;rw[k.len];exact(h.take off).append (k.append (h.drop _))
theorem mJ{v:Value}{d:AV}(r:XQ m w v d)(h:P4 d=some ds):BF m w v.cells.toList ds/\v.cells=v.cells.toList.toArray:=by
 cases d
 case agg cs =>
  obtain rfl:=Z7 h;obtain⟨vs,rfl,r2⟩:=(show Ez m w v (.agg cs)from r);exact⟨by simpa [Value.cells]using r2,by simp[Value.cells]⟩
 case vw id st =>
  obtain rfl:=Z7 h;have r':BB m w v (.vw id st):=r;obtain⟨⟨A,n,c,rfl⟩,_⟩:=(show(∃ A n c,v=.slice A n c)/\_ from r');exact⟨JU r',rfl⟩
 case sl ns E sz els =>
  obtain rfl:=Z7 h;obtain⟨A,n,c,css,rfl,_⟩:=Va r;exact⟨JU r,rfl⟩
 case bool b=>obtain rfl:=Z7 h;have:=Jt r;subst this;exact⟨JU r,rfl⟩
 case int k n=>obtain rfl:=Z7 h;have:=Q4 r;subst this;exact⟨JU r,rfl⟩
 case str s=>obtain rfl:=Z7 h;have:=Tz r;subst this;exact⟨JU r,rfl⟩
 case nil=>obtain rfl:=Z7 h;have:=TA r;subst this;exact⟨JU r,rfl⟩
 all_goals cases h
theorem mK{d:AV}(h:P4 d=some ds)(hu:okV U d):∀ c∈ds,Bu U c:=by
 cases d
 case agg cs=>obtain rfl:=Z7 h;exact hu
 all_goals first|cases h;done |(obtain rfl:=Z7 h;intro c hc;simp only[List.mem_singleton]at hc;subst hc;exact hu)
theorem Vb{v:Value}{d:AV}(h:BB m w v d)(hd:Dj d=true):Au (m.R w) w v d:=by
 cases d
 case sl ns E sz els=>cases ns with
  |false=>exact h
  |true=>cases hd
 all_goals first|exact h|cases hd
theorem bV{d:AV}(hd:Dj d=true):Bu U d:=by cases d<;>first|trivial|cases hd
theorem JH{v:Value}{d:AV}(h:Au (m.R w) w v d):BB m w v d:=by
 cases h with
 |sl A n c E sz els css h hs=>exact Au.sl A n c E sz els css h hs
 |bool b=>exact Au.bool b
 |int k n=>exact Au.int k n
 |str s=>exact Au.str s
 |nil=>exact Au.nil
theorem P5{v:Value}{d:AV}(h:BB m w v d):XQ m w v d:=by
 cases d
 case ptr=>cases (show Au (m.R w) w v _ from h)
 case pe=>cases (show Au (m.R w) w v _ from h)
 case tup=>cases (show Au (m.R w) w v _ from h)
 case und=>cases (show Au (m.R w) w v _ from h)
 case Zbt=>trivial
 case agg=>cases (show Au (m.R w) w v _ from h)
 all_goals exact h
theorem yZ{v:Value}{d:AV}(h:Ez m w v d):XQ m w v d:=by
 cases d
 case agg=>exact h
 all_goals exact P5 h
theorem mM{v:Value}{d:AV}{R:Nat->Prop}(h:Au R w v d):Bu U d:=by cases h<;>trivial
theorem Zsp{d:AV}(h:Bu U d)(hc:KY d=true):okV U d:=by
 cases d<;>first|exact h|cases hc
def AS.Bh(σ:AS):List (Nat×AY)->AS
 |[]=>σ
 |p::l=>(AS.Bh σ l).Bc p
def AS.app(σ:AS)(d:Option Tmp)(e:Eff):AS:=match e.bs with
 |p::l=>(σ.Bh (p::l)).put d e.val
 |[]=>match e.fz,e.bx with
  |[],some p=>(σ.Bc p).put d e.val
  |[],none=>σ.put d e.val
  |f::l,some p=>((σ.DT (f::l)).Bc p).put d e.val
  |f::l,none=>(σ.DT (f::l)).put d e.val
def AS.E8(σ:AS)(fz:List Nat):AS:=match fz with |[]=>σ|f::l=>σ.DT (f::l)
theorem bW(σ:AS)(d:Option Tmp)(e:Eff)(hb:e.bs=[]):σ.app d e=match e.bx with
 |some p=>((σ.E8 e.fz).Bc p).put d e.val
 |none=>(σ.E8 e.fz).put d e.val:=by
 unfold AS.app AS.E8;rw[hb];cases e.fz<;>cases e.bx<;>rfl
theorem mO(σ:AS)(d:Option Tmp)(e:Eff)(hb:e.bs≠[]):σ.app d e=(σ.Bh e.bs).put d e.val:=by
 unfold AS.app;cases h:e.bs with
 |nil=>exact absurd h hb
 |cons p l=>rfl
theorem mP(σ:AS):∀ l:List (Nat×AY),(σ.Bh l).env=σ.env/\(σ.Bh l).clk=σ.clk/\(σ.Bh l).n=σ.n
 |[]=>⟨rfl,rfl,rfl⟩
 |p::l=>mP σ l
def GD(l:List (Nat×AY))(id:Nat):Option AY:=match l with
 |[]=>none
 |p::l=>if id=p.1 then some p.2 else GD l id
theorem J6(σ:AS)(id:Nat):∀ l:List (Nat×AY),(σ.Bh l).box id=match GD l id with|some b=>some b|none=>σ.box id
 |[]=>rfl
 |p::l=>by
  show(if id=p.1 then some p.2 else (σ.Bh l).box id)= _
  simp only[GD]
  split
  .rfl
  .exact J6 σ id l
theorem Za3{id:Nat}:∀ {l:List (Nat×AY)},id ∉ l.map (·.1)->GD l id=none
 |[],_=>rfl
 |p::l,h=>by
  simp only[List.map_cons,List.mem_cons,not_or]at h
  simp only[GD]
  rw[if_neg h.1]
  exact Za3 h.2
def AJ(P:Program)(o:Oper)(U:Nat->Prop)(st:Nat)(σ:AS)(m:Mem)(a:Act)(w:World)(e:Eff):Prop :=
 ∀ (K:Act->World->Prop) (Q:Exit->Act->World->Prop),(∀ v w' m',B5 (fun s=>U s∨s=st) (σ.app o.dst e) m' (a.put o.dst v) w'->m'.w0=m.w0->m'.F=m.F->Cj U m w m' w'->K (a.put o.dst v) w')->o.wp P a w K Q
theorem AJ.run{o:Oper}{st:Nat}{e:Eff}{r:Next}{v:Value}{w':World}{m':Mem}(hrun:(execOp a.eval o).run P w=.ok r w')(hr:r=.value v∨(r=.skip/\v=undef))(hs:B5 (fun s=>U s∨s=st) (σ.app o.dst e) m' (a.put o.dst v) w')(h0:m'.w0=m.w0)(hF:m'.F=m.F)(hev:Cj U m w m' w'):AJ P o U st σ m a w e:=fun K Q hK=>by
 unfold Oper.wp
 rw[hrun]
 rcases hr with rfl |⟨rfl,rfl⟩
 .exact hK v w' m' hs h0 hF hev
 .exact hK undef w' m' hs h0 hF hev
theorem AJ.val{o:Oper}{st:Nat}{v:Value}{d:AV}{rd rs:List Nat}{cw:Bool}(hs:B5 U σ m a w)(hd:∀ t,o.dst=some t->t<σ.n)(hrun:(execOp a.eval o).run P w=.ok (.value v) w)(r:XQ m w v d)(hu:okV U d):AJ P o U st σ m a w ⟨d,none,rd,rs,cw,[],[]⟩:=
 AJ.run hrun (.inl rfl) ((hs.put r hu o.dst hd).mono fun s h=>.inl h) rfl rfl (Cj.refl U m w)
end
section
variable{P:Program}{U:Nat->Prop}{st:Nat}{σ:AS}{m:Mem}{a:Act}{w:World}{o:Oper}
theorem ZqQ{m:Mem}{v:Value}{vs:List AV}(h:Ez m w v (.tup vs)):False:=by cases (show Au (m.R w) w v (.tup vs)from h)
theorem ZqR{m:Mem}{v:Value}{id s i off:Nat}(h:Ez m w v (.ptr id s i off)):False:=by cases (show Au (m.R w) w v (.ptr id s i off)from h)
theorem Zj1(hs:B5 U σ m a w)(hd:∀ t,o.dst=some t->t<σ.n)(x:Operand)(ho:o.op=.move x∨o.op=.assign x):AJ P o U st σ m a w ⟨Az σ.env x,none,[],[],true,[],[]⟩:=by
 obtain⟨r,hu⟩:=hs.Az x;refine AJ.val hs hd (v:=a.eval x) ?_ r hu;rcases ho with ho|ho<;>simp[execOp,ho]
theorem ZoT(hs:B5 U σ m a w)(hd:∀ t,o.dst=some t->t<σ.n)(c x y:Operand)(ho:o.op=.pick c x y)(b:Bool)(hc:Az σ.env c=.bool b):AJ P o U st σ m a w ⟨if b then Az σ.env x else Az σ.env y,none,[],[],true,[],[]⟩:=by
 obtain⟨rc,_⟩:=hs.Az c;rw[hc]at rc;have ec:=Jt rc;obtain⟨rx,ux⟩:=hs.Az x;obtain⟨ry,uy⟩:=hs.Az y;refine AJ.val hs hd (v:=if b then a.eval x else a.eval y) ?_ ?_ ?_
 .simp[execOp,ho,ec,asBool]
 .cases b<;>assumption
 .cases b<;>assumption
theorem Zh6(hs:B5 U σ m a w)(hd:∀ t,o.dst=some t->t<σ.n)(x:Operand)(k:Nat)(ho:o.op=.extract x k)(vs:List AV)(hx:Az σ.env x=.tup vs)(v:AV)(hv:vs[k]? = some v):AJ P o U st σ m a w ⟨v,none,[],[],true,[],[]⟩:=by
 obtain⟨r,hu⟩:=hs.Az x;rw[hx]at r hu;obtain⟨us,e,hl,hr⟩:=r;have hk:=(Za.1 hv).1;have zD:us[k]? = some (us[k]'o_):=Z4 _;refine AJ.val hs hd (v:=us[k]'o_) ?_ (yZ (hr k _ _ zD hv)) ?_
 .simp[execOp,ho,e,Instr.extract,zD]
 .have:=hu v (Z6 hv);have h3:=hr k _ _ zD hv;cases v<;>first|exact this|trivial|exact(ZqQ h3).elim|exact(ZqR h3).elim
theorem ZqK(hs:B5 U σ m a w)(hd:∀ t,o.dst=some t->t<σ.n)(T:TypeId)(x:Operand)(ho:o.op=.unOp .not T x)(b:Bool)(hx:Az σ.env x=.bool b):AJ P o U st σ m a w ⟨.bool (!b),none,[],[],true,[],[]⟩:=by
 obtain⟨r,hu⟩:=hs.Az x;rw[hx]at r;have e:=Jt r;exact AJ.val hs hd (v:=.bool (!b)) (by simp[execOp,ho,e,Op.unary]) (Au.bool _) trivial
theorem ZqL(hs:B5 U σ m a w)(hd:∀ t,o.dst=some t->t<σ.n)(T:TypeId)(x:Operand)(ho:o.op=.unOp .neg T x)(k:IntKind)(n:Int)(hx:Az σ.env x=.int k n)(hn:MW k (-n)):AJ P o U st σ m a w ⟨.int k (-n),none,[],[],true,[],[]⟩:=by
 obtain⟨r,hu⟩:=hs.Az x;rw[hx]at r;have e:=Q4 r;have hn2:k.wrap (-n)= -n:=hn;exact AJ.val hs hd (v:=.int k (-n)) (by simp[execOp,ho,e,Op.unary,Op.intArith,hn2]) (Au.int _ _) trivial
theorem Zlu(P:Program)(op:BinOp)(T:TypeId)(x y:Operand)(k:IntKind)(n b:Int)(w:World)(p:Prop)(v:AV)(h:Ty op k n b=some (p,v))(hp:p):∃ u,((do eqGuard op T x y (.int k n) (.int k b);binOp op T (.int k n) (.int k b)):Sem Value).run P w=.ok u w/\∀ (m:Mem),XQ m w u v:=by
 cases op<;>simp only[Ty,Zi,Prod.mk.injEq,reduceCtorEq]at h;all_goals obtain⟨rfl,rfl⟩:=h
 case add=>exact⟨.int k (n+b),by simp[eqGuard,binOp,Op.intArith,show k.wrap (n+b)=n+b from hp],fun _=>Au.int _ _⟩
 case sub=>exact⟨.int k (n-b),by simp[eqGuard,binOp,Op.intArith,show k.wrap (n-b)=n-b from hp],fun _=>Au.int _ _⟩
 case mul=>exact⟨.int k (n*b),by simp[eqGuard,binOp,Op.intArith,show k.wrap (n*b)=n*b from hp],fun _=>Au.int _ _⟩
 case quo=>obtain⟨hb,hr⟩:=hp;exact⟨.int k (n.tdiv b),by simp[eqGuard,binOp,Op.intDiv,hb,show k.wrap (n.tdiv b)=n.tdiv b from hr],fun _=>Au.int _ _⟩
 case shr =>
  have h2:¬ b<0:=by omega
  exact⟨.int k (n.fdiv (2 ^ min b.toNat k.bits)),by simp[eqGuard,binOp,Op.shift,h2],fun _=>Au.int _ _⟩
 case shl =>
  obtain⟨hb,hr⟩:=hp;have h2:¬ b<0:=by omega
  exact⟨.int k (n*2 ^ min b.toNat k.bits),by simp[eqGuard,binOp,Op.shift,h2,show k.wrap (n*2 ^ min b.toNat k.bits)=n*2 ^ min b.toNat k.bits from hr],fun _=>Au.int _ _⟩
 case and=>exact⟨.int k (k.wrap (BitVec.ofInt k.bits n &&& BitVec.ofInt k.bits b).toNat),by simp[eqGuard,binOp,Op.intBits],fun _=>Au.int _ _⟩
 case rem=>exact⟨.int k (n.tmod b),by simp[eqGuard,binOp,Op.intDiv,hp],fun _=>Au.int _ _⟩
 case eql=>exact⟨.bool (n == b),by simp[eqGuard,binOp,Op.intCmp],fun _=>Au.bool _⟩
 case neq=>exact⟨.bool (n != b),by simp[eqGuard,binOp,Op.intCmp],fun _=>Au.bool _⟩
 case lss=>exact⟨.bool (decide (n<b)),by simp[eqGuard,binOp,Op.intCmp],fun _=>Au.bool _⟩
 case leq=>exact⟨.bool (decide (n<=b)),by simp[eqGuard,binOp,Op.intCmp],fun _=>Au.bool _⟩
 case gtr=>exact⟨.bool (decide (b<n)),by simp[eqGuard,binOp,Op.intCmp],fun _=>Au.bool _⟩
 case geq=>exact⟨.bool (decide (b<=n)),by simp[eqGuard,binOp,Op.intCmp],fun _=>Au.bool _⟩
theorem ZpP(U:Nat->Prop){op:BinOp}{k:IntKind}{n b:Int}{p:Prop}{v:AV}(h:Ty op k n b=some (p,v)):okV U v:=by
 cases op<;>simp only[Ty,Zi,Prod.mk.injEq,reduceCtorEq]at h;all_goals obtain⟨_,rfl⟩:=h;trivial
theorem ZoU(hs:B5 U σ m a w)(hd:∀ t,o.dst=some t->t<σ.n)(op:BinOp)(T T':TypeId)(x y:Operand)(ho:o.op=.binOp op T x y T')(k:IntKind)(n b:Int)(hx:Az σ.env x=.int k n)(hy:Az σ.env y=.int k b)(p:Prop)(v:AV)(h:Ty op k n b=some (p,v))(hp:p):AJ P o U st σ m a w ⟨v,none,[],[],true,[],[]⟩:=by
 obtain⟨rx,_⟩:=hs.Az x;obtain⟨ry,_⟩:=hs.Az y;rw[hx]at rx;rw[hy]at ry;have ex:=Q4 rx;have ey:=Q4 ry;obtain⟨u,hrun,hr⟩:=Zlu P op T x y k n b w p v h hp;refine AJ.val hs hd (v:=u) ?_ (hr m) (ZpP U h);unfold execOp;simp only[ho,ex,ey,Sem.run_bind,hrun,Result.andThen_ok,Sem.run_pure]
theorem zG(hs:B5 U σ m a w)(hd:∀ t,o.dst=some t->t<σ.n)(op:BinOp)(T T':TypeId)(x y:Operand)(ho:o.op=.binOp op T x y T')(s u:ByteArray)(hx:Az σ.env x=.str s)(hy:Az σ.env y=.str u)(v:Value)(d:AV) 
  (h:(op=.eql/\v=.bool (s.toList == u.toList)/\d=.bool (s.toList == u.toList))∨(op=.neq/\v=.bool (!(s.toList == u.toList))/\d=.bool (!(s.toList == u.toList)))∨(op=.add/\v=.string (s++u)/\d=.str (s++u)/\s.size+u.size<=9223372036854775807)):AJ P o U st σ m a w ⟨d,none,[],[],true,[],[]⟩:=by
 obtain⟨rx,_⟩:=hs.Az x;obtain⟨ry,_⟩:=hs.Az y;rw[hx]at rx;rw[hy]at ry;have ex:=Tz rx;have ey:=Tz ry;rcases h with⟨rfl,rfl,rfl⟩|⟨rfl,rfl,rfl⟩|⟨rfl,rfl,rfl,hl⟩
 .exact AJ.val hs hd (by simp[execOp,ho,ex,ey,eqGuard,binOp,Op.stringOp]) (Au.bool _) trivial
 .exact AJ.val hs hd (by simp[execOp,ho,ex,ey,eqGuard,binOp,Op.stringOp]) (Au.bool _) trivial
 .refine AJ.val hs hd ?_ (Au.str _) trivial
  have h1:¬ IntKind.i64.max <((s.size+u.size:Nat):Int):=by
   have:IntKind.i64.max=9223372036854775807:=by decide
   rw[this];omega
  have h2:¬ IntKind.i64.max <(s.size:Int)+(u.size:Int):=by
   have:IntKind.i64.max=9223372036854775807:=by decide
   rw[this];omega
  simp[execOp,ho,ex,ey,eqGuard,binOp,Op.stringOp,h1,h2];omega
theorem Zor{T:TypeId}(h:V9 P T=true):P.underlying T=some .bool:=by
 unfold V9 at h;split at h
 .rename_i hk;exact hk
 .cases h
theorem Zko{T:TypeId}(h:V9 P T=true)(s u:Bool)(w:World):(Op.equal T (.bool s) (.bool u)).run P w=.ok (s == u) w:=by
 unfold Op.equal Op.maxDepth;rw[Op.equalIn];simp[run_underlying (Zor h)]
theorem Zj8(hs:B5 U σ m a w)(hd:∀ t,o.dst=some t->t<σ.n)(op:BinOp)(T T':TypeId)(x y:Operand)(ho:o.op=.binOp op T x y T')(hT:V9 P T=true)(s u:Bool)(hx:Az σ.env x=.bool s)(hy:Az σ.env y=.bool u)(d:AV) 
  (h:(op=.eql/\d=.bool (s == u))∨(op=.neq/\d=.bool (!(s == u)))):AJ P o U st σ m a w ⟨d,none,[],[],true,[],[]⟩:=by
 obtain⟨rx,_⟩:=hs.Az x;obtain⟨ry,_⟩:=hs.Az y;rw[hx]at rx;rw[hy]at ry;have ex:=Jt rx;have ey:=Jt ry;rcases h with⟨rfl,rfl⟩|⟨rfl,rfl⟩
 .exact AJ.val hs hd (v:=.bool (s == u)) (by simp[execOp,ho,ex,ey,eqGuard,binOp,Zko hT]) (Au.bool _) trivial
 .exact AJ.val hs hd (v:=.bool (!(s == u))) (by simp[execOp,ho,ex,ey,eqGuard,binOp,Zko hT]) (Au.bool _) trivial
theorem Znn{T:TypeId}{k:IntKind}(h:Rp P T=some k):P.underlying T=some (.int k):=by
 unfold Rp at h;split at h
 .rename_i k' hk;rw[hk,Z7 h]
 .cases h
theorem Zh7(hs:B5 U σ m a w)(hd:∀ t,o.dst=some t->t<σ.n)(S T:TypeId)(x:Operand)(ho:o.op=.convert S T x)(k0 k k':IntKind)(h0:Rp P S=some k0)(hk:Rp P T=some k)(n:Int)(hx:Az σ.env x=.int k' n):AJ P o U st σ m a w ⟨.int k (k.wrap n),none,[],[],true,[],[]⟩:=by
 obtain⟨rx,_⟩:=hs.Az x;rw[hx]at rx;have ex:=Q4 rx;exact AJ.val hs hd (v:=.int k (k.wrap n)) (by simp[execOp,ho,ex,convert,run_underlying (Znn h0),run_underlying (Znn hk),Conv.intToInt]) (Au.int _ _) trivial
end
end Go.Proofs.YtcnbphnnfmphlaaGreatDoor
