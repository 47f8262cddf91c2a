/- Texts of this proof. -/
import Derived.Test.YtcnbphnnfmphlaaGreatDoorGtm21
namespace Go.Proofs.YtcnbphnnfmphlaaGreatDoor
open Go.Calls renaming mono → Zb
open Go.Lib renaming hid → Z5
open List renaming mem_of_getElem? → Z6
open Option.some renaming injEq → Zi
open Go.Proofs.Tryz
open Go.RowKit
set_option linter.unusedVariables false
set_option linter.unusedSimpArgs false
set_option maxHeartbeats 1600000
set_option maxRecDepth 100000
variable{f:A7}{L l:List A7}{j:Nat}
theorem Z4w(v vb:Sv)(l:List A7)(b:Br)(w:World)(hm:El l)(hs:Qq l)(hmb:qW b)(hsb:Qq b.Ab)(hr:EQ w v l)(hrb:Og w vb b):
  Calls prog 56 #[.slice v.A v.n v.c,Xn b.AU vb.A vb.n vb.c] w fun e w'=>∃ v1 v2:Sv,e=.returned (.tuple #[.slice v1.A v1.n v1.c,.slice v2.A v2.n v2.c])/\BR w' v1 (Qb l b.AU b.Ab).1/\BR w' v2 (Qb l b.AU b.Ab).2/\Ag w.heap.size w' (Ea v1++Ea v2)/\Below w.heap.size w w':=by
 have hl:=hr.len;have hlb:Hid (b.Ab.length=vb.n):=hrb.len;have hm1:v.n<=4194304:=by have:=hl.out;unfold El at hm;omega
 have hm2:vb.n<=4194304:=by have:=hlb.out;unfold qW El at hmb;omega
 obtain⟨i0,hii,hq0,hq1,hq2⟩:=info_parts XT;generalize hb1:YW l=b1;generalize hb2:Yg b.AU b.Ab=b2;have HB1:=Z5 hb1;have HB2:=Z5 hb2;clear hb1 hb2;go_enter func56,ntmps56;go_wp2_with fail;refine Zb (Yz v l _ hm ?_) ?_
 .exact EQ.below hr (Ze (Below.refl _ _) _)
 rintro e w1 ⟨⟨A1,n1,c1⟩,rfl,ho1,hf1,hk1⟩;have H:=Zg (Ze (Below.refl w.heap.size w) _) hk1;have k1:=JT hk1 w.heap.size s_;have z1:=LC hk1;have hlo1:Hid (∀ q∈AQ A1,w.heap.size+1<=q):=fun q hq=>by have h9:=hf1.lo q hq;simp at h9;omega
 have hhi1:Hid (∀ q∈AQ A1,q<w1.heap.size):=hf1.hi;have f1:=hf1.nodup;clear hf1;go_wp2_with fail;refine Zb (Yb v.A v.n v.c l _ hm1 (Row.below hr (Ze H _)) hs) ?_;rintro e w2 ⟨rfl,hk2⟩;rw[HB1.out];have H2:=Zg (Ze H (.cells #[] 35)) hk2;have k2:=JT (Zg (Ze (Below.refl _ _) _) hk2:Below w1.heap.size w1 w2) w.heap.size o_;have z2:=LC hk2;have ho1:=ho1.below (Zg (Ze (Below.refl _ _) _) hk2);have ho2:Own w2 w.heap.size 35 8 (some ⟨w1.heap.size,0,none⟩) 0 0 []:=(Zm7 w1 w.heap.size 35 8 rfl H.size).below hk2;cases b1
 .have E:=Z5 (ZcN (fs:=b.Ab) (r:=b.AU) (.inl HB1.out));go_wp2_with fail;go_ret2;rw[E.out];exact⟨⟨A1,n1,c1⟩,⟨some ⟨w1.heap.size,0,none⟩,0,0⟩,rfl,ho1,ho2.zero,xN f1 hlo1.out ho1 ho2 (fun q hq e=>by simp[ob]at e;have:=hhi1.out q hq;omega),H2⟩
 go_wp2_with fail;refine Zb (YP b.AU vb.A vb.n vb.c b.Ab _ hm2 (Row.below hrb H2) hsb) ?_;rintro e w3 ⟨rfl,hk3⟩;rw[HB2.out];have H3:=Zg H2 hk3;have k3:=JT hk3 w.heap.size o_;have z3:w2.heap.size<=w3.heap.size:=hk3.size;have ho1:=ho1.below hk3;have ho2:=ho2.below hk3;cases b2
 .have E:=Z5 (ZcN (l:=l) (.inr HB2.out));go_wp2_with fail;go_ret2;rw[E.out];exact⟨⟨A1,n1,c1⟩,⟨some ⟨w1.heap.size,0,none⟩,0,0⟩,rfl,ho1,ho2.zero,xN f1 hlo1.out ho1 ho2 (fun q hq e=>by simp[ob]at e;have:=hhi1.out q hq;omega),H3⟩
 have h4:=Zd3 HB2.out;have E:=Z5 (vR HB1.out HB2.out);have Z6A:vb.n<=4:=by have:=hlb.out;omega
 go_wp2_with fail;go_loopw [28,6,7,10,11] (fun i m' w2' x10 x11 wr=>∃ (k:Nat) (M:Sv) (A2:Option Addr) (n2 c2:Nat) (L1 L2:List A7),k<=vb.n/\i=.int .i64 k/\m'=.slice M.A M.n M.c/\w2'=.slice A2 n2 c2/\BR wr M L1/\(AQ M.A).Nodup/\(∀ q∈AQ M.A,w.heap.size+1<=q)/\Own wr w.heap.size 35 8 A2 n2 c2 (L2.map A7.cells)/\(∀ q∈AQ M.A,ob A2≠some q)/\EH l b.Ab k L1 L2/\YW L1=true/\Qq L1/\L2.length<=k/\Below w.heap.size w wr) (fun i _ _ _ _ _=>vb.n-(intOf i).toNat)
 case atStart=>exact⟨0,⟨A1,n1,c1⟩,some ⟨w1.heap.size,0,none⟩,0,0,l,[],o_,rfl,rfl,rfl,ho1,f1,hlo1.out,ho2,fun q hq e=>by simp[ob]at e;have:=hhi1.out q hq;omega,ZeV l b.Ab,HB1.out,hs,s_,H3⟩
 case round =>
  obtain⟨k,M,A2,n2,c2,L1,L2,hk,rfl,rfl,rfl,Tf,hnd,hlo,Gz,hap,hi,hFL,hsm,hL2,hbr⟩:=hrel;have Hr:=hbr;have Tg:=Z5 Gz.lt;have jT:=Z5 hlo;have zz:=Hr.size;have jU:=Z5 hap;have HFL:=Z5 hFL;have bF:El L1:=by have:=Qo HFL.out;unfold El;omega
  clear hlo hFL hap;by_cases hlt:k<vb.n
  .obtain⟨f,g,off,hf,hA,g0,g1,g2,g3,g4,g5,g6,g7⟩:=Cy.at_ (Row.below hrb Hr) hlt;have hst:=Z5 (hi.step hf);clear hi;have aS:=hsb f (Z6 hf.out);have hx0:(0:Int)<=(k:Int):=by omega
   have hx1:(k:Int)<(vb.n:Int):=by omega
   rw[hA];go_wp2_with fail;refine Zb (Jj M L1 f _ bF hsm aS (sV Tf) ?_) ?_
   .exact Row.below (BR.rd Tf) (Ze (Below.refl _ _) _)
   rintro e w4 ⟨v4,rfl,C9,DF,hk4⟩;have H4:=Zg (Ze Hr _) hk4;have H34:=Zg (Ze hbr _) hk4;have kw:=JT hk4 wr.heap.size s_;have z4:=LC hk4;have Ti:Hid (∀ q∈AQ v4.A,wr.heap.size+1<=q):=fun q hq=>by have h9:=DF.lo q hq;simp at h9;omega
   have yC:Hid (∀ q∈AQ v4.A,q<w4.heap.size):=DF.hi;have fm4:=DF.nodup;clear DF;have Gz:=Gz.below (Zg (Ze (Below.refl _ _) _) hk4);have Tf:=BR.below Tf (Zg (Ze (Below.refl _ _) _) hk4);generalize hok:(Qt L1 f).2=ok;have ED:=Z5 hok;clear hok;rw[hA.symm];cases ok
   .have hn:=Z5 (hst.out.trans (uJ ED.out));go_wp2_with fail;go_roundw
    case rel=>exact⟨k+1,M,A2,n2,c2,L1,L2,o_,by go_num,rfl,rfl,Tf,hnd,jT.out,Gz,jU.out,hn.out,HFL.out,hsm,o_,H34⟩
    case measure=>simp[intOf];omega
   .have hn:=Z5 (hst.out.trans (uK ED.out));go_wp2_with (at_builtin;refine ZX rfl (.tmp 40) (.tmp 42) 23 rfl w.heap.size 35 8 80 i0 _ underlying23 hii hq0 hq1 hq2 rfl o_ A2 n2 c2 _ rfl (Gz.Aj _) _ 1 1 [f.cells] rfl (Yh _ _ f.cells 8 _ s_) (by simp[A7.cells]) (by simp[A7.cells,Value.oneCell']) (by have h8:=Gz.len;simp at h8;simp only[maxLen];omega) (by have h8:=Gz.len;simp at h8;omega) (by have h8:=H4.size;simp;omega) ?_;intro A5 c5 w5 Cn hg5 Eo);have Cn:Own w5 w.heap.size 35 8 A5 (n2+1) c5 ((L2++[f]).map A7.cells):=by simpa using Cn
    have Iq:=BR.upd C9 ((Q9 (Ze (Below.refl _ _) _)).trans (XV hg5)) (fun q hq hm=>by have h8:=Ti.out q hq;have h9:=(Tg.out q (ZR.1 hm)).2;omega);have H5:=Qn (Ze H34 _) hg5 (fun q hq=>(Tg.out q hq).1)
    have yD:∀ q∈AQ v4.A,ob A5≠some q:=fun q hq e=>by
     rcases Eo with h|h
     .rw[h]at e;have h8:=Ti.out q hq;have h9:=(Tg.out q e).2;omega
     .rw[h]at e;simp at e;have h8:=yC.out q hq;omega
    go_roundw
    case rel=>exact⟨k+1,v4,A5,n2+1,c5,(Qt L1 f).1,L2++[f],o_,by go_num,rfl,rfl,Iq,fm4,fun q hq=>by have:=Ti.out q hq;omega,Cn,yD,hn.out,vP ED.out,Zaw hsm aS,AR,H5⟩
    case measure=>simp[intOf];omega
  .have hfin:=Z5 ((E.out).trans (hi.done hlb hlt).out);go_wp2_with fail;go_ret2;rw[hfin.out];exact⟨M,⟨A2,n2,c2⟩,rfl,Tf,Gz.zero,xN hnd jT.out Tf Gz jU.out,Hr⟩
def Zqe(l:List A7)(r:Am):List A7:=Mj l r.Ab
theorem ZkR(h:YW l=true):YW (Qt l f).1=true:=by
 unfold Qt;split
 .rename_i hc;simp only[Bool.and_eq_true]at hc;exact hc.2
 .exact h
theorem Zgv{t:Ak}(h:YG t=false):Oe t=[]:=by simp[Oe,h]
theorem Zpl(h:YW l=true):El l:=by have:=Qo h;unfold El;omega
def Fx(t:Ak)(rs:List Am)(L:List A7)(k:Nat):Prop:=Oe t=(rs.drop k).foldl Zqe L
def G6(t:Ak)(m:List A7)(rest:List Am)(L:List A7)(j:Nat):Prop:=Oe t=rest.foldl Zqe (Mj L (m.drop j))
theorem Fx.step{t:Ak}{rs:List Am}{k:Nat}{r:Am}(h:Fx t rs L k)(hr:Hid (rs[k]? = some r)):G6 t r.Ab (rs.drop (k+1)) L 0:=by
 unfold Fx at h;unfold G6;rw[h,QP hr];rfl
theorem Fx.done{t:Ak}{rs:List Am}{k n:Nat}(h:Fx t rs L k)(hl:Hid (rs.length=n))(hk:¬ k<n):Hid (Oe t=L):=by
 unfold Fx at h;rw[Hid,h,QK hl hk];rfl
theorem G6.step{t:Ak}{m:List A7}{rest:List Am}(h:G6 t m rest L j)(hf:Hid (m[j]? = some f)):G6 t m rest (Qt L f).1 (j+1):=by
 unfold G6 at *;rw[h,QP hf];rfl
theorem G6.done{t:Ak}{m:List A7}{rs:List Am}{n k:Nat}(h:G6 t m (rs.drop (k+1)) L j)(hl:Hid (m.length=n))(hj:¬ j<n):Fx t rs L (k+1):=by
 unfold G6 at h;unfold Fx;rw[h,QK hl hj];rfl
structure Fy(w wr:World)(V:Sv)(L:List A7):Prop where
 ow:BR wr V L
 fr:Ag w.heap.size wr (Ea V)
 fl:YW L=true
 sm:Qq L
theorem Fy.below{w wr w2:World}{V:Sv}(h:Fy w wr V L)(hb:Below wr.heap.size wr w2):Fy w w2 V L:=⟨h.ow.below hb,h.fr.grow hb.size,h.fl,h.sm⟩
theorem Zqp(g off n c:Nat)(h1:1<=n)(h2:n<=c):∃ A' c',(∀ W,(Instr.slice 26 (.slice (some ⟨g,off,none⟩) n c) (some (.int .i64 1)) none none).run prog W=.ok (.slice A' (n-1:Nat) c') W)/\(1<n->A'=some ⟨g,off+2,none⟩):=by
 by_cases h3:1<c
 .have hI:(1:Int)<(c:Int):=by omega
  have hJ:(1:Int)<=(n:Int):=by omega
  have hK:(n:Int)<=(c:Int):=by omega
  refine⟨some ⟨g,off+2,none⟩,c-1,fun W=>?_,fun _=>rfl⟩;go_simp;omega
 .obtain rfl:c=1:=by omega
  obtain rfl:n=1:=by omega
  have:∃ A' c',∀ W,(Instr.slice 26 (.slice (some ⟨g,off,none⟩) 1 1) (some (.int .i64 1)) none none).run prog W=.ok (.slice A' 0 c') W:=by go_simp
  obtain⟨A',c',h⟩:=this;exact⟨A',c',h,fun h=>by omega⟩
theorem ZiN{R:World->List Value->Am->Prop}{w:World}{g off n:Nat}{l:List Am}(h:BQ R w (some ⟨g,off,none⟩) n 2 l)(h1:1<=n){A':Option Addr}(hA:1<n->A'=some ⟨g,off+2,none⟩):BQ R w A' (n-1) 2 (l.drop 1):=by
 have hl:l.length=n:=h.len;obtain⟨css,Bb,h2,h3⟩:=h;refine⟨css.drop 1,Bb.drop 1,⟨by simp[h2.1],fun i cs hi=>?_⟩,h3.GV 1⟩;rw[List.getElem?_drop]at hi;obtain⟨g',off',hA',hc⟩:=h2.2 _ _ hi;simp only[Zi,Addr.mk.injEq,and_true]at hA';obtain⟨rfl,rfl⟩:=hA';have hin:1+i<n:=by rw[<- h2.1];exact(List.getElem?_eq_some_iff.1 hi).1
 refine⟨g,off+2,hA o_,fun j v hv=>?_⟩;have:=hc j v hv;rw[<- this];congr 2;omega
theorem Z32(v:TV)(t:Ak)(w:World)(hm:Xk t<=4194304)(hok:Mq t)(hr:Dt w v t):
  Calls prog 14 #[QL v] w fun e w'=>∃ v':Sv,e=.returned (.slice v'.A v'.n v'.c)/\BR w' v' (Oe t)/\Ag w.heap.size w' (Ea v')/\Below w.heap.size w w':=by
 have SR:=Z5 (tT hm);have HM:=Z5 hm;have OK:=Z5 hok;have WJ:=hr.rd;have hnc:=hr.r.nc;obtain⟨⟨Ar,nr,cr⟩,⟨Ac,nc,cc⟩,fr,fc⟩:=v;obtain⟨r0,r1⟩:=WJ;dsimp only at r0 r1 hnc;have lr:=r0.len;have NR:=Z5 (show nr<=4194304 by have:=lr.out;unfold Xk at hm;omega);have WJ:=Z5 hr.rd;generalize hbt:YG t=bt;have HT:=Z5 hbt;clear hbt hm hok hr;go_enter func14,ntmps14;go_wp2_with fail;refine Zb (Xz ⟨⟨Ar,nr,cr⟩,⟨Ac,nc,cc⟩,fr,fc⟩ t _ HM.out OK.out ?_) ?_
 .exact Kc.below WJ.out (Ze (Below.refl _ _) _)
 rintro e w1 ⟨he,hb1⟩;rw[HT.out]at he;subst he;have H:=Zg (Ze (Below.refl w.heap.size w) _) hb1;have k1:=JT hb1 w.heap.size s_;cases bt
 .have hfin:=Z5 (Zgv HT.out);go_wp2_with fail;go_ret;exact⟨⟨none,0,0⟩,rfl,by rw[hfin.out];exact Qz _ _ _ _,Ag.nil _ _,H⟩
 have hpos:=uC HT.out;have hn1:1<=nr:=by have:=lr.out;omega
 have FX:nr<=3:=by have:=lr.out;omega
 have t0:w1.cell? ⟨w.heap.size,0,none⟩=some (.slice Ar nr cr):=by rw[k1];simp
 have tV:=NR.out;have hz1:=Y6 t0;dsimp only at hz1;clear hpos;obtain⟨x0,cs0,g0,H9,hx0,Ir,hR0,hc0⟩:=BQ.at_ (BQ.below (R:=D8) D8.below r0 H) (show 0<nr by omega);obtain⟨v0,rfl,Oy,uD⟩:=hR0;have p0:w1.cell? ⟨g0,H9,none⟩=some (.slice v0.A v0.n v0.c):=by simpa using hc0 0 _ rfl
 obtain⟨hs1,hs2,_⟩:=SR.out x0 (Z6 hx0.out);have yE:El x0.Ab:=hs1;have HS2:=Z5 hs2;subst Ir;have hNI:(0:Int)<(nr:Int):=by omega
 have hNN:0<nr:=by omega
 have hNE:nr≠0:=by omega
 have hin:Fx t (t.Ad.drop 1) x0.Ab 0:=by
  unfold Fx;have e:t.Ad=x0::t.Ad.drop 1:=by have:=QP (k:=0) hx0;simpa using this
  rw[List.drop_zero,Z64 HT.out e];rfl
 have bG:YW x0.Ab=true:=by
  have h:=HT.out;unfold YG at h;simp only[Bool.and_eq_true,List.all_eq_true]at h;exact h.2.2.1 x0 (Z6 hx0.out)
 have bH:=Z5 bG;obtain⟨A',c',hrun,hA'⟩:=Zqp g0 H9 nr cr hn1 hnc.1;have HR:Hid (BQ D8 w A' (nr-1) 2 (t.Ad.drop 1)):=ZiN r0 hn1 hA';have hlen:Hid ((t.Ad.drop 1).length=nr-1):=by have:=lr.out;rw[Hid,List.length_drop,this]
 have hmem:Hid (∀ x∈t.Ad.drop 1,x∈t.Ad):=fun x h=>List.mem_of_mem_drop h
 clear hc0 hs1 hs2 bG hA';go_wp2_with fail;refine Zb (Yz v0 x0.Ab _ yE ?_) ?_
 .exact Oy
 rintro e w2 ⟨V2,rfl,ho2,hf2,hB0⟩;have t0':=Zm hB0 t0;have hup:Fy w w2 V2 x0.Ab:=⟨ho2,hf2.Ay H.size,bH.out,HS2.out⟩;go_wp2_with fail;go_loopw [21,3] (fun i l wr=>∃ (k:Nat) (V:Sv) (L:List A7),k<=(nr-1)/\i=.int .i64 k/\l=.slice V.A V.n V.c/\Fy w wr V L/\Fx t (t.Ad.drop 1) L k/\Below w1.heap.size w1 wr) (fun i _ _=>(nr-1)-(intOf i).toNat)
 case atStart=>exact⟨0,V2,x0.Ab,o_,rfl,rfl,hup,hin,hB0⟩
 case round =>
  obtain⟨k,V,L,hk,rfl,rfl,hup,hi,hb⟩:=hrel;obtain⟨wo,rfl⟩:∃ wo:World,wo=wr:=⟨_,rfl⟩;have HB:=Zg H hb;by_cases hlt:k <(nr-1)
  .obtain⟨x,cs,g,off,hx,hAx,hR,hc⟩:=BQ.at_ (BQ.below (R:=D8) D8.below HR.out HB) hlt;obtain⟨vx,rfl,F8,hLn⟩:=hR;have q0:wo.cell? ⟨g,off+k*2,none⟩=some (.slice vx.A vx.n vx.c):=hc 0 _ rfl;have q1:wo.cell? ⟨g,off+k*2+1,none⟩=some (.string x.Av):=hc 1 _ rfl;clear hc;subst hAx;have hVI:=hi.step hx;have lx:=F8.len;obtain⟨hs1,hs2,_⟩:=SR.out x (hmem.out x (Z6 hx.out));have hs3:vx.n<=4194304:=by have:=lx.out;omega
   have HS:=Z5 hs2;have z0:(0:Int)<=(k:Int):=by omega
   have z1:(k:Int)<(((nr-1):Nat):Int):=by omega
   clear hi hs1 hs2;go_wp2_with fail;go_loopw [28,3] (fun i l ww=>∃ (j:Nat) (V:Sv) (L:List A7),j<=vx.n/\i=.int .i64 j/\l=.slice V.A V.n V.c/\Fy w ww V L/\G6 t x.Ab ((t.Ad.drop 1).drop (k+1)) L j/\Below wo.heap.size wo ww) (fun i _ _=>vx.n-(intOf i).toNat)
   case atStart=>exact⟨0,V,L,o_,rfl,rfl,hup.below (Ze (Below.refl _ _) _),hVI,Ze (Below.refl _ _) _⟩
   case round =>
    obtain⟨j,V,L,hj,rfl,rfl,hup,aZ,hb2⟩:=hrel;by_cases hjl:j<vx.n
    .obtain⟨f,g3,Ep,hf,hA3,c0,c1,c2,c3,c4,c5,c6,c7⟩:=Cy.at_ (Row.below F8 hb2) hjl;rw[hA3];have hnx:=aZ.step hf;have hfs:=HS.out f (Z6 hf.out);have HFS:=Z5 hfs;have y0:(0:Int)<=(j:Int):=by omega
     have y1:(j:Int)<(vx.n:Int):=by omega
     clear aZ hfs;go_wp2_with fail;refine Zb (Jj V L f _ (Zpl hup.fl) hup.sm HFS.out (sV hup.ow) ?_) ?_
     .exact EQ.below hup.ow.rd (Ze (Below.refl _ _) _)
     rintro e w5 ⟨v5,rfl,Cn,NJ,hb5⟩;have jR:=Zg (Ze hb2 _) hb5;have yF:Fy w w5 v5 (Qt L f).1:=⟨Cn,NJ.Ay (by have:=(Zg HB hb2).size;simp;omega),ZkR hup.fl,Zaw hup.sm HFS.out⟩;go_wp2_with fail;go_roundw
     case rel=>exact⟨j+1,v5,_,o_,by go_num,rfl,yF,hnx,jR⟩
     case measure=>simp[intOf];omega
    .have hnx:=aZ.done lx hjl;go_wp2_with fail;go_roundw
     case rel=>exact⟨k+1,V,L,o_,by go_num,rfl,hup,hnx,Zg hb hb2⟩
     case measure=>simp[intOf];omega
  .have hfin:=hi.done hlen hlt;go_wp2_with fail;go_ret;exact⟨V,rfl,by rw[hfin.out];exact hup.ow,hup.fr,HB⟩
theorem Zpd(w:World)(l:List Int):Mh (w.alloc (.cells (l.map (Value.int .i64)).toArray 3)) (some ⟨w.heap.size,0,none⟩) l.length l:=by
 refine⟨s_,fun i cs hi=>⟨w.heap.size,0,rfl,fun j v hv=>?_⟩⟩;have e:(w.alloc (.cells (l.map (Value.int .i64)).toArray 3)).heap[w.heap.size]? = some (.cells (l.map (Value.int .i64)).toArray 3):=heap_alloc_new w _;unfold World.cell?;rw[e];rw[List.getElem?_map]at hi;cases hl:l[i]? with
 |none=>rw[hl]at hi;cases hi
 |some s =>
  rw[hl]at hi;simp only[Option.map_some,Zi]at hi;subst hi;match j with
  |0 =>
   simp[pY]at hv;subst hv;simp[hl]
  |j+1=>simp[pY]at hv
theorem ZhR{W w:World}{A:Option Addr}{n c:Nat}(hB:Below W.heap.size W w)(hy:Bytes W A n)(hn:n<=4194304)(k:Nat)(hk:k<=1000):
  Calls prog 8 #[.slice A n c,.int .i64 (k:Int)] w fun e w'=>∃ x y:Int,e=.returned (.tuple #[.int .i64 x,.int .i64 y])/\-9223372036854775808<=x/\x<=9223372036854775807/\-9223372036854775808<=y/\y<=9223372036854775807/\Below w.heap.size w w':=by
 have hy':=Z5 hy;have hN:=Z5 (ZfH (c:=c) hB hy hn (2*k+3) o_);rw[show(((2*k+3:Nat)):Int)=2 *(k:Int)+3 by omega]at hN;clear hB hy;go_enter func8,ntmps8;go_wp2_with fail;refine Zb hN.out ?_;rintro e w1 ⟨b,rfl,hb,hc1,hb1⟩;have hrow:=Z5 (Zpd w1 [1,1,2,2,2,3,4,5,6,6,7]);have HC:=Z5 (hc1.below (Ze (Below.refl _ _) (.cells #[.int .i64 1,.int .i64 1,.int .i64 2,.int .i64 2,.int .i64 2,.int .i64 3,.int .i64 4,.int .i64 5,.int .i64 6,.int .i64 6,.int .i64 7] 3)));have hbl:=hc1.lt;have B1:=Z5 hb1;clear hc1 hb1 hN;go_wp2_with fail;refine Zb (ZjE hy'.out hn HC.out _ 11 11 _ hrow.out o_ o_ o_) ?_;rintro e w2 ⟨x,rfl,hx,hc2,hu2⟩
 have hx1:1<=x/\x<=7:=by
  simp at hx;omega
 have B2:=Z5 (PK (W:=w) (Zg B1.out (Ze (Below.refl _ _) (.cells #[.int .i64 1,.int .i64 1,.int .i64 2,.int .i64 2,.int .i64 2,.int .i64 3,.int .i64 4,.int .i64 5,.int .i64 6,.int .i64 6,.int .i64 7] 3))) hu2 hb);have Sd:=Z5 hc2;clear hc2 hu2 HC hx;go_wp2_with fail;refine Zb (Ys hy'.out hn Sd.out 4 o_ o_) ?_;rintro e w3 ⟨y,rfl,hy0,hy1,hc3,hu3⟩;have B3:=Z5 (PK (W:=w) B2.out hu3 hb);clear hc3 hu3 Sd;go_wp2_with fail;go_ret2;exact⟨x,y,rfl,o_,o_,o_,o_,B3.out⟩
end Go.Proofs.YtcnbphnnfmphlaaGreatDoor
