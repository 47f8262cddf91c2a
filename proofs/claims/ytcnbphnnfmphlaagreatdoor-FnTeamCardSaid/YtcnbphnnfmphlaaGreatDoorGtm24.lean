/- Texts of this proof. -/
import Derived.Test.YtcnbphnnfmphlaaGreatDoorGtm21
namespace Go.Proofs.YtcnbphnnfmphlaaGreatDoor
open Go.Lib renaming hid → Z5
open List renaming mem_of_getElem? → Z6,mem_append → Z9,replicate → Zk,nodup_append → ZA
open Nat renaming lt_of_lt_of_le → Zf,le_trans → Zj,zero_le → Zs
open Go.Proofs.Tryz
open Go.RowKit
set_option linter.unusedVariables false
set_option linter.unusedSimpArgs false
set_option maxHeartbeats 4000000
set_option maxRecDepth 100000
variable{l:List Chan}{fs:List Nat}{B:Nat}{u0 u1:Value}{w' w1:World}
structure BO(w:World)(b:Nat)(u0 u1:Value):Prop where
 c0:w.cell? ⟨b,0,none⟩=some u0
 c1:w.cell? ⟨b,1,none⟩=some u1
 fz:∀ o,w.frozen? ⟨b,o,none⟩=false
theorem BO.lt{w:World}{b:Nat}(h:BO w b u0 u1):b<w.heap.size:=Y6 h.c0
theorem BO.below{w:World}{b:Nat}(h:BO w b u0 u1)(k:Below w.heap.size w w'):BO w' b u0 u1 :=
 ⟨Zm k h.c0,Zm k h.c1,fun o=>(Q6 k b h.lt o).trans (h.fz o)⟩
theorem BO.grown{w:World}{b:Nat}{row:Option Nat}(h:BO w b u0 u1)(k:w.grownBy w' row)(hne:row≠some b):BO w' b u0 u1 :=
 ⟨World.grownBy.cell k h.c0 (fun e=>hne e.symm),World.grownBy.cell k h.c1 (fun e=>hne e.symm),fun o=>(NH k b h.lt (fun q hq e=>hne (by rw[hq,e])) o).trans (h.fz o)⟩
theorem BO.upd{w:World}{b:Nat}(h:BO w b u0 u1)(k:Aw fs w w')(hne:b ∉ fs):BO w' b u0 u1 :=
 ⟨(F5 k b h.lt hne 0).trans h.c0,(F5 k b h.lt hne 1).trans h.c1,fun o=>(NB k b h.lt hne o).trans (h.fz o)⟩
theorem BO.set0{w:World}{b:Nat}(h:BO w b u0 u1)(x:Value):BO (w.setCell ⟨b,0,none⟩ x) b x u1:=by
 have h0:=h.c0;have h1:=h.c1;have h2:=h.fz;exact⟨by go_simp,by go_simp,fun o=>by simp[h2]⟩
theorem BO.set1{w:World}{b:Nat}(h:BO w b u0 u1)(x:Value):BO (w.setCell ⟨b,1,none⟩ x) b u0 x:=by
 have h0:=h.c0;have h1:=h.c1;have h2:=h.fz;exact⟨by go_simp,by go_simp,fun o=>by simp[h2]⟩
theorem Aw.Iw{gs:List Nat}{a b c:World}(h:Aw fs a b)(k:Aw gs b c)(hg:∀ q∈gs,q∈fs∨a.heap.size<=q):Aw fs a c :=
 ⟨k.os.trans h.os,k.tape.trans h.tape,k.output.trans h.output,Zj h.size k.size,fun i hi hn=>(k.block i (Zf hi h.size) (fun hm=>by
  rcases hg i hm with h1|h1
  .exact hn h1
  .omega)).trans (h.block i hi hn)⟩
theorem Sw{α:Type}{c:α->Nat}{x:α}:∀ {l:List α},x∈l->c x<=Y9 c l
 |y::l,h=>by
  simp only[Y9]
  rcases List.mem_cons.1 h with rfl|h
  .omega
  .have:=Sw (c:=c) h;omega
theorem Zpk{t:Ak}(h:LG t):∀ r∈t.Ad,El r.Ab:=fun r hr=>by
 have:r.num<=Y9 Am.num t.Ad:=Sw hr
 have h2:r.num=1+r.Ab.length:=rfl
 unfold LG FJ at h;unfold El;omega
theorem Zmp{t:Ak}(h:LG t):∀ l∈t.channels,Y9 Chan.num l<=4194304:=fun r hr=>by
 have:LF r<=Y9 LF t.channels:=Sw hr
 have h2:LF r=1+Y9 Chan.num r:=rfl
 unfold LG FJ at h;omega
theorem Zpj(h:Y9 Chan.num l<=4194304):∀ c∈l,EP c:=fun c hc=>Zro (Zj (Sw hc) h)
theorem jX{t:Ak}(h:LG t):t.Ad.length<=4194304/\t.channels.length<=4194304:=by
 have h1:=iX (c:=Am.num) (fun x=>by unfold Am.num;omega) t.Ad;have h2:=iX (c:=LF) (fun x=>by unfold LF;omega) t.channels;unfold LG FJ at h;omega
theorem Zoz(h:Y9 Chan.num l<=4194304):l.length<=4194304:=by
 have h1:=iX (c:=Chan.num) (fun x=>by unfold Chan.num;omega) l;omega
theorem xP{α:Type}{l:List α}{k:Nat}{x:α}(h:Hid (l[k]? = some x)):l.take k++[x]=l.take (k+1):=by
 have h':l[k]? = some x:=h;obtain⟨hk,rfl⟩:=List.getElem?_eq_some_iff.1 h';rw[List.take_succ_eq_append_getElem hk]
theorem xQ{α:Type}{l:List α}{n:Nat}(h:Hid (l.length=n)):l.take n=l:=by
 have h':l.length=n:=h;rw[<- h',List.take_length]
theorem ZoI{α:Type}{K:World->List Nat->List Value->α->Prop}(hK:Loc K){e sz n c:Nat}{Bb:List (List Nat)}{css:List (List Value)}{f:List Nat}{A:Option Addr}{l:List α}{cs:List Value}{x:α} 
  (h1:Own w1 0 e sz A n c css) (h2:Each (K w1) Bb css l) (hf:Ag B w1 (AQ A++Bb.flatten)) (hk:K w1 f cs x) (Gf:Ag B w1 f) (hap:∀ q∈AQ A++Bb.flatten,q ∉ f) (hB:B<=w1.heap.size)
  (w2:World) (A':Option Addr) (c':Nat) (ho:Own w2 0 e sz A' (n+1) c' (css++[cs])) (hg:w1.grownBy w2 (ob A)) (hat:ob A'=ob A∨ob A'=some w1.heap.size):
   ∃ fs',Bt K w2 fs' e sz A' (n+1) c' (l++[x])/\Ag B w2 fs':=by
 obtain⟨nA,nF,nd⟩:=ZA.1 hf.nodup;have hl2:=h2.iP hK
 have kp:∀ q,q∈Bb.flatten∨q∈f->w2.heap[q]? = w1.heap[q]?:=by
  intro q hq;refine hg.block q (by rcases hq with hq|hq;exact hl2 q hq;exact Gf.hi q hq) (fun e=>?_);have ha:=ZR.2 e.symm;rcases hq with hq|hq
  .exact nd q ha q hq rfl
  .exact hap q (Z9.2 (.inl ha)) hq
 have hE:Each (K w2) (Bb++[f]) (css++[cs]) (l++[x]):=(h2.Kb hK fun q hq=>kp q (.inl hq)).append (Each.one (hK.keep hk fun q hq=>kp q (.inr hq)));refine⟨AQ A'++(Bb++[f]).flatten,⟨css++[cs],Bb++[f],ho,hE,rfl⟩,?_⟩;have Gb:(Bb++[f]).flatten=Bb.flatten++f:=by simp
 rw[Gb];have hlt2:=hg.size
 have dA:∀ q∈AQ A',q ∉ Bb.flatten++f/\B<=q/\q<w2.heap.size:=by
  intro q hq;have hq2:=ZR.1 hq;have LH:=(ho.lt q hq2).2;rcases hat with hat|hat
  .rw[hat]at hq2;have ha:=ZR.2 hq2;refine⟨fun hm=>?_,hf.lo q (Z9.2 (.inl ha)),LH⟩;rcases Z9.1 hm with hm|hm
   .exact nd q ha q hm rfl
   .exact hap q (Z9.2 (.inl ha)) hm
  .rw[hat]at hq2;have e:=Option.some.inj hq2;refine⟨fun hm=>?_,o_,LH⟩;rcases Z9.1 hm with hm|hm
   .have:=hl2 q hm;omega
   .have:=Gf.hi q hm;omega
 refine⟨?_,?_,?_⟩
 .refine ZA.2 ⟨by unfold AQ;cases ob A'<;>simp,ZA.2 ⟨nF,Gf.nodup,fun a ha b hb e=>?_⟩,fun a ha b hb e=>(dA a ha).1 (e▸hb)⟩;subst e;exact hap a (Z9.2 (.inr ha)) hb
 .intro q hq;rcases Z9.1 hq with hq|hq
  .exact(dA q hq).2.1
  .rcases Z9.1 hq with hq|hq
   .exact hf.lo q (Z9.2 (.inr hq))
   .exact Gf.lo q hq
 .intro q hq;rcases Z9.1 hq with hq|hq
  .exact(dA q hq).2.2
  .rcases Z9.1 hq with hq|hq
   .have:=hl2 q hq;omega
   .have:=Gf.hi q hq;omega
theorem Bt.MM{α:Type}{K:World->List Nat->List Value->α->Prop}(hK:Loc K){e sz n c:Nat}{wr:World}{A:Option Addr}{l:List α}(h:Bt K wr fs e sz A n c l)(hf:Ag B wr fs)(hB:B<=wr.heap.size):
  ∃ css,Own wr 0 e sz A n c css/\∀ (W2:World),Below wr.heap.size wr W2->∀ (f:List Nat) (cs:List Value) (x:α),K W2 f cs x->Ag wr.heap.size W2 f->∀ (w2:World) (A':Option Addr) (c':Nat),Own w2 0 e sz A' (n+1) c' (css++[cs])->W2.grownBy w2 (ob A)->(ob A'=ob A∨ob A'=some W2.heap.size)->
   ∃ fs',Bt K w2 fs' e sz A' (n+1) c' (l++[x])/\Ag B w2 fs':=by
 have hlt:=h.lt hK;obtain⟨css,Bb,h1,h2,rfl⟩:=h;refine⟨css,h1,fun W2 hb f cs x hk Gf w2 A' c' ho hg hat=>?_⟩;exact ZoI hK (h1.below hb) (h2.Kb hK fun k hk=>hb.block k (hlt k (Z9.2 (.inr hk)))) (hf.grow hb.size) hk (Gf.Ay hB) (fun q hq hm=>by have:=hf.hi q hq;have:=Gf.lo q hm;omega) (by have:=hb.size;omega) w2 A' c' ho hg hat
theorem lZ{α:Type}{K:World->List Nat->List Value->α->Prop}{w:World}{b:Nat}{e sz n c:Nat}{A:Option Addr}{l:List α}(h:Bt K w fs e sz A n c l)(hf:Ag B w1 fs)(hb:b<B):ob A≠some b:=fun e=>by
 have:=hf.lo b (h.CQ b (ZR.2 e));omega
theorem Xv(v:TV)(t:Ak)(w:World)(hm:LG t)(hr:Kc w v t):
  Calls prog 21 #[QL v] w fun e w'=>∃ v',e=.returned (QL v')/\Dt w' v' t/\Ag w.heap.size w' (Cb v')/\Below w.heap.size w w':=by
 have FR:=Z5 (Zpk hm);have FC:=Z5 (Zmp hm);have FL:=jX hm;obtain⟨⟨Ar,nr,cr⟩,⟨Ac,nc,cc⟩,fr0,xR⟩:=v;obtain⟨r0,r1⟩:=hr;dsimp only at r0 r1;have lr:=r0.len;have lc:=r1.len;have NR:nr<=4194304:=by have:=lr.out;omega
 have NC:nc<=4194304:=by have:=lc.out;omega
 obtain⟨i0,hi,hz0,hz1,hz2⟩:=info_parts Z8s;obtain⟨j0,hj,hy0,hy1,hy2⟩:=info_parts Z4q;obtain⟨l0,hl,hx0,hx1,hx2⟩:=info_parts Z30;obtain⟨k0,hk,hk0,hk1,hk2⟩:=info_parts XT;clear hm FL;go_enter func21,ntmps21;go_wp2_with fail;go_loopw [15] (fun i wr=>∃ (k:Nat) (A:Option Addr) (c:Nat) (fr:List Nat),k<=nr/\i=.int .i64 k/\BO wr w.heap.size (.slice Ar nr cr) (.slice Ac nc cc)/\BO wr (w.heap.size+1) (.slice none 0 0) (.slice none 0 0)/\BO wr (w.heap.size+1+1) (.slice A k c) (.slice none 0 0)/\Bt S8 wr fr 51 2 A k c (t.Ad.take k)/\Ag (w.heap.size+3) wr fr/\Below w.heap.size w wr) (fun i _=>nr-(intOf i).toNat)
 case atStart=>
  refine⟨0,none,0,[],o_,rfl,?_,?_,?_,VN _ _ _,Ag.nil _ _,Ze (Ze (Ze (Below.refl _ _) _) _) _⟩
  .exact⟨by go_simp,by go_simp,fun o=>by go_simp⟩
  .exact⟨by go_simp,by go_simp,fun o=>by go_simp⟩
  .exact⟨by go_simp,by go_simp,fun o=>by go_simp⟩
 case round =>
  obtain⟨k,A,c,fr,hkn,rfl,X0,X1,X2,how,hfr,HB⟩:=hrel;have Z2:=X2.lt;by_cases hlt:k<nr
  .obtain⟨x,cs,g,off,hx,hAx,hR,hc⟩:=BQ.at_ (BQ.below (R:=D8) D8.below r0 HB) hlt;obtain⟨vr,rfl,F8,hLn⟩:=hR;have q0:wr.cell? ⟨g,off+k*2,none⟩=some (.slice vr.A vr.n vr.c):=hc 0 _ rfl;have q1:wr.cell? ⟨g,off+k*2+1,none⟩=some (.string x.Av):=hc 1 _ rfl;clear hc;subst hAx;have hfx:=FR.out x (Z6 hx.out);have sJ:vr.n<=4194304:=by have:=F8.len.out;unfold El at hfx;omega
   have z0:(0:Int)<=(k:Int):=by omega
   have z1:(k:Int)<(nr:Int):=by omega
   go_wp2_with fail;refine ZQ fun W hW=>?_
   have Cq:Below wr.heap.size wr W:=by rw[hW.out];exact Ze (Below.refl _ _) _
   have xR:W.cell? ⟨wr.heap.size,0,none⟩=some (.slice vr.A vr.n vr.c):=by rw[hW.out];simp
   have Eu:W.cell? ⟨wr.heap.size,1,none⟩=some (.string x.Av):=by rw[hW.out];simp
   have hfz:∀ o,W.frozen? ⟨wr.heap.size,o,none⟩=false:=fun o=>by rw[hW.out];simp
   clear hW;have hWz:wr.heap.size<W.heap.size:=Y6 xR;have XR:BO W wr.heap.size (.slice vr.A vr.n vr.c) (.string x.Av):=⟨xR,Eu,hfz⟩;have xS:=X2.below Cq;have b0:=xS.c0;have b2:=xS.fz;have b9:=xS.lt;have xU:=F8.below Cq;obtain⟨css,hco,hpush⟩:=how.MM NF hfr o_;have bB:=Z5 hco;have xV:=Z5 hpush;have Te:Hid (ob A≠some (w.heap.size+1+1)):=lZ how hfr o_;have hAr:Hid (ob A≠some wr.heap.size):=fun e=>by have:=how.lt NF _ (how.CQ _ (ZR.2 e));omega
   have hne2:w.heap.size+1+1≠wr.heap.size:=by omega
   clear hco hpush F8 q0 q1;go_region_law (first |(go_simp;go_at_call 36;refine Calls.mono (Yz vr x.Ab _ hfx ?_) ?_;exact xU.below JD;rintro e w3 ⟨v3,rfl,ho3,hf3,hk3⟩;have HB3:=Zg (show Below wr.heap.size wr _ from(by repeat(first|with_reducible exact Cq|with_reducible refine Ze ?_ _|with_reducible refine ZY ?_|with_reducible refine Qh ?_ _))) hk3;have HW3:=Zg (show Below W.heap.size W _ from JD) hk3;have Y2:=BO.below X2 HB3;have YR:=BO.below XR HW3;have y0:=Y2.c0;have y1:=Y2.fz;have y2:=YR.c0;have y3:=YR.c1;have yz:=Y2.lt;have yw:=YR.lt)|(refine YB rfl (.tmp 20) (.tmp 27) 26 rfl 0 51 2 40 i0 _ underlying26 hi hz0 hz1 hz2 rfl o_ A k c css rfl (bB.out.below (by repeat(first|with_reducible exact HB3|with_reducible refine Ze ?_ _|with_reducible refine ZY ?_|with_reducible refine Qh ?_ _))) _ 1 1 [Oh v3 x] rfl (Yh _ _ (Oh v3 x) 2 _ s_) (by simp[Oh]) (by simp[Oh,Value.oneCell']) (by simp only[maxLen];omega) o_ (Zs _) ?_;intro A4 c4 w4 C9 hg4 E5;have X4:=BO.grown (BO.below X2 (by repeat(first|with_reducible exact HB3|with_reducible refine Ze ?_ _|with_reducible refine ZY ?_|with_reducible refine Qh ?_ _))) hg4 Te.out;have tb1:=X4.c0;have tbf:=X4.fz;obtain⟨fs',hs',hf'⟩:=xV.out _ (by repeat(first|with_reducible exact HB3|with_reducible refine Ze ?_ _|with_reducible refine ZY ?_|with_reducible refine Qh ?_ _)) (Ea v3) (Oh v3 x) x ⟨v3,rfl,BR.below ho3 JD,rfl⟩ (Ag.grow (Ag.Ay hf3 (Nat.le_of_lt hWz)) s_) w4 A4 c4 C9 hg4 E5;have H4:=(Qn (show Below w.heap.size w _ from Zg HB (by repeat(first|with_reducible exact HB3|with_reducible refine Ze ?_ _|with_reducible refine ZY ?_|with_reducible refine Qh ?_ _))) hg4 (fun q hq=>by have:=hfr.lo q (how.CQ q (ZR.2 hq));omega));have X0':=BO.grown (BO.below X0 (by repeat(first|with_reducible exact HB3|with_reducible refine Ze ?_ _|with_reducible refine ZY ?_|with_reducible refine Qh ?_ _))) hg4 (lZ how hfr o_);have X1':=BO.grown (BO.below X1 (by repeat(first|with_reducible exact HB3|with_reducible refine Ze ?_ _|with_reducible refine ZY ?_|with_reducible refine Qh ?_ _))) hg4 (lZ how hfr o_)))
   all_goals
    have hs4:=hs'.upd NF ((Aw.refl [w.heap.size+1+1] w4).AA (p:=⟨w.heap.size+1+1,0,none⟩) s_ (.slice A4 (k+1) c4)) (fun q hq hm=>by have:=hf'.lo q hq;simp at hm;omega);rw[xP hx]at hs4;have X2n:=X4.set0 (.slice A4 (k+1) c4);have uS:Aw [w.heap.size+1+1] w4 (w4.setCell ⟨w.heap.size+1+1,0,none⟩ (.slice A4 (k+1) c4)):=Cs;have X0n:=X0'.upd uS AR;have X1n:=X1'.upd uS s_;have H4n:=Dq H4 uS (fun q hq=>by simp at hq;omega);have DF:=hf'.grow uS.size;go_wp2_with fail;go_roundw
    case rel=>exact⟨k+1,A4,c4,fs',o_,by go_num,X0n,X1n,X2n,hs4,DF,H4n⟩
    case measure=>simp[intOf];omega
  .obtain rfl:nr=k:=by omega
   rw[xQ lr]at how;obtain⟨a0,a1,a2⟩:=X0;have a3:=Y6 a0;obtain⟨wq,hwq⟩:∃ wq:World,wr=wq:=⟨_,rfl⟩;rw[hwq]at X1 X2 how hfr HB a0 a1 a2 a3 ⊢;clear hwq;have x20:=X2.c0;have x21:=X2.c1;have x22:=X2.lt;go_wp2_with fail;go_loopw [34,7,8] (fun i y7 y8 wr=>∃ (k:Nat) (A2:Option Addr) (c2:Nat) (fc:List Nat),k<=nc/\i=.int .i64 k/\BO wr (w.heap.size+1+1) (.slice A nr c) (.slice A2 k c2)/\Bt Sa wr fc 62 1 A2 k c2 (t.channels.take k)/\Ag wq.heap.size wr fc/\Aw [w.heap.size+1+1] wq wr) (fun i _ _ _=>nc-(intOf i).toNat)
   case atStart=>exact⟨0,none,0,[],o_,rfl,X2,VN _ _ _,Ag.nil _ _,Aw.refl _ _⟩
   case round =>
    obtain⟨k,A2,c2,fc,hkn,rfl,Y2,hoc,hfc,hup⟩:=hrel;obtain⟨wo,rfl⟩:∃ wo:World,wo=wr:=⟨_,rfl⟩;have HBr:=Dq HB hup (fun q hq=>by simp at hq;omega);have b0:=Y2.c0;have b1:=Y2.c1;have b2:=Y2.fz;have b3:=Y2.lt;have us:=hup.size;by_cases hlt:k<nc
    .obtain⟨row,cs,g,off,hx,hAx,hR,hc⟩:=BQ.at_ (BQ.below (R:=ES) ES.below r1 HBr) hlt;obtain⟨vs,rfl,hRs,hLn⟩:=hR;have q0:wo.cell? ⟨g,off+k,none⟩=some (.slice vs.A vs.n vs.c):=by simpa using hc 0 _ rfl
     clear hc;subst hAx;have lvs:=hRs.len;have hrow:=FC.out row (Z6 hx.out);have hvs:vs.n<=4194304:=by have:=Zoz hrow;have:=lvs.out;omega
     have SY:=Z5 (Zpj hrow);obtain⟨css,hco,hpush⟩:=hoc.MM Mo hfc us;have bB:=Z5 hco;have xV:=Z5 hpush;have Te:Hid (ob A2≠some (w.heap.size+1+1)):=lZ hoc hfc o_;have xW:Hid (∀ q,ob A2=some q->wq.heap.size<=q/\q<wo.heap.size):=fun q hq=>⟨hfc.lo q (hoc.CQ q (ZR.2 hq)),hfc.hi q (hoc.CQ q (ZR.2 hq))⟩
     clear hco hpush hrow;have z0:(0:Int)<=(k:Int):=by omega
     have z1:(k:Int)<(nc:Int):=by omega
     go_wp2_with fail;go_loopw [41,8] (fun i o ww=>∃ (m:Nat) (A3:Option Addr) (c3:Nat) (fe:List Nat),m<=vs.n/\i=.int .i64 m/\o=.slice A3 m c3/\Bt S9 ww fe 77 6 A3 m c3 (row.take m)/\Ag wo.heap.size ww fe/\Below wo.heap.size wo ww) (fun i _ _=>vs.n-(intOf i).toNat)
     case atStart=>exact⟨0,_,0,[wo.heap.size],o_,rfl,rfl,⟨[],[],VS _ _ _ s_ rfl,trivial,by simp[AQ,ob]⟩,⟨s_,s_,s_⟩,Ze (Below.refl _ _) _⟩
     case round =>
      obtain⟨m,A3,c3,fe,hmn,rfl,rfl,hoe,hfe,hbw⟩:=hrel;obtain⟨ww,rfl⟩:∃ ww:World,ww=wr:=⟨_,rfl⟩;have hbs:=hbw.size;by_cases PU:m<vs.n
      .obtain⟨ch,cs,g3,Ep,hy,hAy,hR,hc⟩:=BQ.at_ (BQ.below (R:=ER) ER.below hRs hbw) PU;obtain⟨vc,rfl,xX,hLc⟩:=hR;have p0:ww.cell? ⟨g3,Ep+m*6,none⟩=some (.slice vc.q.A vc.q.n vc.q.c):=hc 0 _ rfl;have p1:ww.cell? ⟨g3,Ep+m*6+1,none⟩=some (.int .i64 ch.base):=hc 1 _ rfl;have p2:ww.cell? ⟨g3,Ep+m*6+2,none⟩=some (.int .i64 ch.expected):=hc 2 _ rfl;have p3:ww.cell? ⟨g3,Ep+m*6+3,none⟩=some (.slice vc.i.A vc.i.n vc.i.c):=hc 3 _ rfl;have p4:ww.cell? ⟨g3,Ep+m*6+4,none⟩=some (.slice vc.n.A vc.n.n vc.n.c):=hc 4 _ rfl;have p5:ww.cell? ⟨g3,Ep+m*6+5,none⟩=some (.slice vc.a.A vc.a.n vc.a.c):=hc 5 _ rfl;clear hc;rw[hAy];have xY:=SY.out ch (Z6 hy.out);obtain⟨MN,bC,MO⟩:=hoe.MM VO hfe hbs;have xZ:=Z5 bC;have yA:=Z5 MO;clear bC MO;have z2:(0:Int)<=(m:Int):=by omega
       have z3:(m:Int)<(vs.n:Int):=by omega
       have tok:True:=trivial;go_wp2_with fail;refine Calls.mono (Yp vc ch _ xY ?_) ?_
       .exact xX.below (Ze (Below.refl _ _) _)
       rintro e w3 ⟨v3,rfl,ho3,hf3,hk3⟩;have HB3:=Zg (Ze (Below.refl ww.heap.size ww) _) hk3;go_wp2_with (at_builtin;have _t:=tok;refine ZX rfl (.tmp 45) (.tmp 48) 62 rfl 0 77 6 112 j0 _ underlying62 hj hy0 hy1 hy2 rfl o_ A3 m c3 MN rfl (xZ.out.below (by repeat(first|with_reducible exact HB3|with_reducible refine Ze ?_ _|with_reducible refine ZY ?_|with_reducible refine Qh ?_ _))) _ 1 1 [Ql v3 ch.base ch.expected] rfl (Yh _ _ (Ql v3 ch.base ch.expected) 6 _ s_) (by simp[Ql]) (by simp[Ql,Value.oneCell']) (by simp only[maxLen];omega) o_ (Zs _) ?_;clear tok _t;intro A4 c4 w4 C9 hg4 E5;obtain⟨fs',hs',hf'⟩:=yA.out _ (by repeat(first|with_reducible exact HB3|with_reducible refine Ze ?_ _|with_reducible refine ZY ?_|with_reducible refine Qh ?_ _)) (AP v3) (Ql v3 ch.base ch.expected) ch ⟨v3,rfl,BM.below ho3 JD,rfl⟩ (Ag.grow (Ag.Ay hf3 s_) s_) w4 A4 c4 C9 hg4 E5;have H4:=(Qn (show Below wo.heap.size wo _ from Zg hbw (by repeat(first|with_reducible exact HB3|with_reducible refine Ze ?_ _|with_reducible refine ZY ?_|with_reducible refine Qh ?_ _))) hg4 (fun q hq=>hfe.lo q (hoe.CQ q (ZR.2 hq)))));rw[xP hy]at hs';go_roundw
       case rel=>exact⟨m+1,A4,c4,fs',o_,by go_num,rfl,hs',hf',H4⟩
       case measure=>simp[intOf];omega
      .obtain rfl:m=vs.n:=by omega
       rw[xQ lvs]at hoe;have c20:=Zm hbw b0;have c21:=Zm hbw b1;have c22:=fun o=>(Q6 hbw _ b3 o).trans (b2 o)
       have c23:=Y6 c20;have tok:True:=trivial;go_wp2_with (at_builtin;have _t:=tok;refine ZX rfl (.tmp 52) (.tmp 54) 27 rfl 0 62 1 24 l0 _ underlying27 hl hx0 hx1 hx2 rfl o_ A2 k c2 css rfl (bB.out.below (by repeat(first|with_reducible exact hbw|with_reducible refine Ze ?_ _|with_reducible refine ZY ?_|with_reducible refine Qh ?_ _))) _ 1 1 [[.slice A3 vs.n c3]] rfl (Yh _ _ [.slice A3 vs.n c3] 1 _ s_) s_ (by simp[Value.oneCell']) (by simp only[maxLen];omega) o_ (Zs _) ?_;clear tok _t;intro A4 c4 w4 C9 hg4 E5;obtain⟨fs',hs',hf'⟩:=xV.out _ (by repeat(first|with_reducible exact hbw|with_reducible refine Ze ?_ _|with_reducible refine ZY ?_|with_reducible refine Qh ?_ _)) fe [.slice A3 vs.n c3] row ⟨⟨A3,vs.n,c3⟩,rfl,Bt.below VO hoe JD⟩ (Ag.grow hfe s_) w4 A4 c4 C9 hg4 E5;have Y4:=BO.grown (BO.below Y2 (by repeat(first|with_reducible exact hbw|with_reducible refine Ze ?_ _|with_reducible refine ZY ?_|with_reducible refine Qh ?_ _))) hg4 Te.out;have d0:=Y4.c0;have d1:=Y4.c1;have d2:=Y4.fz;have U4:=(Aw.Iw (hup.CK (show Below wo.heap.size wo _ from(by repeat(first|with_reducible exact hbw|with_reducible refine Ze ?_ _|with_reducible refine ZY ?_|with_reducible refine Qh ?_ _)))) (XV hg4) (fun q hq=>.inr (xW.out q (ZR.1 hq)).1)));have uS:Aw [w.heap.size+1+1] w4 (w4.setCell ⟨w.heap.size+1+1,1,none⟩ (.slice A4 (k+1) c4)):=Cs;have hs4:=hs'.upd Mo uS (fun q hq hm=>by have:=hf'.lo q hq;simp at hm;omega);rw[xP hx]at hs4;have Y4n:=Y4.set1 (.slice A4 (k+1) c4);have DF:=hf'.grow uS.size;have U4n:=U4.trans uS;go_wp2_with fail;go_roundw
       case rel=>exact⟨k+1,A4,c4,fs',o_,by go_num,Y4n,hs4,DF,U4n⟩
       case measure=>simp[intOf];omega
    .obtain rfl:k=nc:=by omega
     rw[xQ lc]at hoc;have Z1:=X1.upd hup s_;have z0:=Z1.c0;have z1:=Z1.c1;have z2:=Z1.fz;have hro:=how.upd NF hup (fun q hq hm=>by have:=hfr.lo q hq;simp at hm;omega);go_wp2_with fail;refine bodyPost_ret (v:=QL ⟨⟨A,nr,c⟩,⟨A2,k,c2⟩,fr,fc⟩) (by simp[*,results,results21,go_sem]) rfl ?_;have uS:Aw [w.heap.size+1] wo (((wo.setCell ⟨w.heap.size+1,0,none⟩ (.slice A nr c))).setCell ⟨w.heap.size+1,1,none⟩ (.slice A2 k c2)):=Cs;refine⟨_,rfl,⟨hro.upd NF uS (fun q hq hm=>by have:=hfr.lo q hq;simp at hm;omega),hoc.upd Mo uS (fun q hq hm=>by have:=hfc.lo q hq;simp at hm;omega)⟩,?_,?_⟩
     .exact Ag.append ((hfr.Ay o_).grow (by have:=hup.size;have:=uS.size;omega)) (hfc.grow uS.size) o_ (fun q hq=>hfr.hi q hq)
     .exact Dq HBr uS (fun q hq=>by simp at hq;omega)

def SE:Am:=⟨[],ByteArray.empty⟩
def OE:Chan:={ queue:=[],base:=0,expected:=0,inbox:=[],net:=[],Ai:=[]}
def LV(n:Nat):List Chan:=Zk n OE
def Re(d:Int):Ak×Bool:=if Be d 1 3 then (⟨Zk d.toNat SE,Zk d.toNat (LV d.toNat)⟩,true)else (⟨[],[]⟩,false)
theorem Zhf{d:Int}(h:Be d 1 3=false):Re d=(⟨[],[]⟩,false):=by simp[Re,h]
theorem Z8f{n:Nat}(h:Be (n:Int) 1 3=true):Re n=(⟨Zk n SE,Zk n (LV n)⟩,true):=by simp[Re,h]
theorem Zs2(d:Int):LG (Re d).1:=by
 unfold Re;split
 .rename_i h;have h1:=Y8.1 h;obtain⟨n,rfl⟩:∃ n:Nat,d=n:=⟨d.toNat,o_⟩;have h2:n=1∨n=2∨n=3:=by omega
  rcases h2 with rfl|rfl|rfl <;>(unfold LG;decide)
 .unfold LG;decide
theorem Zt6(w:World):Dt w ⟨⟨none,0,0⟩,⟨none,0,0⟩,[],[]⟩ ⟨[],[]⟩:=⟨VN _ _ _,VN _ _ _⟩
theorem Za1{α:Type}{K:World->List Nat->List Value->α->Prop}{w:World}{e sz g n c:Nat}{zs:List Value}{x:α}(h:Own w B e sz (some ⟨g,0,none⟩) n c (Zk n zs))(hk:K w [] zs x):
  Bt K w [g] e sz (some ⟨g,0,none⟩) n c (Zk n x)/\Ag B w [g]:=by
 refine⟨⟨Zk n zs,Zk n [],h.zero,Each.replicate hk n,by simp[AQ,ob]⟩,?_⟩;have h2:=YC h;simpa [AQ,ob]using h2
theorem Zl8(w:World):S8 w [] xO SE:=⟨⟨none,0,0⟩,rfl,Qz _ _ _ _,rfl⟩
theorem Zog(w:World):S9 w [] J5 OE:=⟨⟨⟨none,0,0⟩,⟨none,0,0⟩,⟨none,0,0⟩,⟨none,0,0⟩⟩,rfl,⟨Qz _ _ _ _,Qz _ _ _ _,Qz _ _ _ _,Qz _ _ _ _⟩,rfl⟩
theorem Zlw{α:Type}(k:Nat)(x:α):Zk k x++[x]=Zk (k+1) x:=by rw[List.replicate_succ']
theorem Z9v(d:Int)(w:World)(hwf:(Lit.int .i64 d).wf=true):
  Calls prog 6 #[.int .i64 d] w fun e w'=>∃ v',e=.returned (.tuple #[QL v',.bool (Re d).2])/\Dt w' v' (Re d).1/\Ag w.heap.size w' (Cb v')/\Below w.heap.size w w':=by
 by_cases hin:1<=d/\d<=3;rotate_left
 .have hi0:Hid (Be d 1 3=false):=by rw[Hid,Bool.eq_false_iff];intro h;exact hin (Y8.1 h)
  have hfin:=Z5 (Zhf hi0.out);have hd:d<1∨(¬ d<1/\3<d):=by omega
  clear hin;rcases hd with hd |⟨hd,hd2⟩
  .go_enter func6,ntmps6;go_wp2_with fail;refine bodyPost_ret (v:=.tuple #[QL ⟨⟨none,0,0⟩,⟨none,0,0⟩,[],[]⟩,.bool false]) (by simp[*,results,results6,go_sem]) rfl ?_;rw[hfin.out];exact⟨_,rfl,Zt6 _,Ag.nil _ _,by repeat(first|with_reducible exact Below.refl _ _|with_reducible refine Ze ?_ _ |(with_reducible refine Dp ?_ ?_ _;rotate_left;simp))⟩
  .go_enter func6,ntmps6;go_wp2_with fail;refine bodyPost_ret (v:=.tuple #[QL ⟨⟨none,0,0⟩,⟨none,0,0⟩,[],[]⟩,.bool false]) (by simp[*,results,results6,go_sem]) rfl ?_;rw[hfin.out];exact⟨_,rfl,Zt6 _,Ag.nil _ _,by repeat(first|with_reducible exact Below.refl _ _|with_reducible refine Ze ?_ _ |(with_reducible refine Dp ?_ ?_ _;rotate_left;simp))⟩
 have hi0:Hid (Be d 1 3=true):=Y8.2 hin;obtain⟨n,rfl⟩:∃ n:Nat,d=n:=⟨d.toNat,o_⟩;obtain⟨hn1,hn2⟩:1<=n/\n<=3:=by omega
 have hfin:=Z5 (Z8f hi0.out);have ni1:¬(n:Int)< 1:=by omega
 have ni2:¬(3:Int)<(n:Int):=by omega
 obtain⟨i0,hi,hz0,hz1,hz2⟩:=info_parts Z8s;obtain⟨j0,hj,hy0,hy1,hy2⟩:=info_parts Z4q;obtain⟨l0,hl,hx0,hx1,hx2⟩:=info_parts Z30;obtain⟨MC,yB⟩:∃ MC:Array Value,MC=madeCells J5.toArray (n*6):=⟨_,rfl⟩;have HMC:=Z5 yB;have hmk:∀ W,(Instr.makeSlice 62 (.int .i64 (n:Int)) (.int .i64 (n:Int))).run prog W=.ok (.slice (some ⟨W.heap.size,0,none⟩) n n) (W.alloc (.cells MC 77)):=fun W=>by rw[yB];exact ZcC W _ _ j0 _ J5 6 112 underlying62 hj hy0 hy1 hy2 rfl n o_ (by simp only[maxLen];omega)
 clear hin hwf yB;go_enter func6,ntmps6
 go_wp2_with (first
  |(fail)
  |(refine ZdP rfl (.tmp 13) (.tmp 13) _ rfl (w.heap.size+1) 51 2 40 i0 _ underlying26 hi hz0 hz1 hz2 .i64 .i64 n rfl rfl xO rfl rfl o_ o_ (by simp only[maxLen];omega) s_ ?_;intro w1 hown1 hg1;have hzz:w.heap.size+1<w1.heap.size:=(by have:=(hown1.lt _ rfl).2;simpa using this);have bD:w.heap.size<w1.heap.size:=o_;have kb1:=Ml hg1 w.heap.size s_ s_;have fb1:=NH hg1 w.heap.size s_ s_))
 have hB1:Below w.heap.size w w1:=Qn (Ze (Below.refl _ _) _) hg1 s_;obtain⟨W0,hW0⟩:∃ W0:World,W0=w1.alloc (.cells #[.slice (some ⟨w.heap.size+1,0,none⟩) n n,.slice none 0 0] 29):=⟨_,rfl⟩;have hsW:W0.heap.size=w1.heap.size+1:=by rw[hW0];simp
 have a0:W0.cell? ⟨w1.heap.size,0,none⟩=some (.slice (some ⟨w.heap.size+1,0,none⟩) n n):=by rw[hW0];simp
 have a1:W0.cell? ⟨w1.heap.size,1,none⟩=some (.slice none 0 0):=by rw[hW0];simp
 have a2:∀ o,W0.frozen? ⟨w1.heap.size,o,none⟩=false:=fun o=>by rw[hW0];simp
 have hB0:Below w.heap.size w W0:=by rw[hW0];exact Ze hB1 _
 have hR0:Own W0 (w.heap.size+1) 51 2 (some ⟨w.heap.size+1,0,none⟩) n n (Zk n xO):=by rw[hW0];exact by simpa using hown1.Aj _
 have b0:∀ o,W0.cell? ⟨w.heap.size,o,none⟩=w1.cell? ⟨w.heap.size,o,none⟩:=fun o=>by rw[hW0];exact(JT (Ze (Below.refl _ _) _) w.heap.size bD o)
 have b1:∀ o,W0.frozen? ⟨w.heap.size,o,none⟩=w1.frozen? ⟨w.heap.size,o,none⟩:=fun o=>by rw[hW0];exact(Q6 (Ze (Below.refl _ _) _) w.heap.size bD o)
 rw[<- hW0];clear hW0;go_loopw [5] (fun i wr=>∃ (k:Nat) (A:Option Addr) (c:Nat) (fc:List Nat),k<=n/\i=.int .i64 k/\wr.cell? ⟨w1.heap.size,0,none⟩=some (.slice (some ⟨w.heap.size+1,0,none⟩) n n)/\wr.cell? ⟨w1.heap.size,1,none⟩=some (.slice A k c)/\Bt Sa wr fc 62 1 A k c (Zk k (LV n))/\Ag (w1.heap.size+1) wr fc/\Aw [w1.heap.size] W0 wr/\∀ o,wr.frozen? ⟨w1.heap.size,o,none⟩=false) (fun i _=>n-(intOf i).toNat)
 case atStart=>exact⟨0,none,0,[],o_,rfl,a0,a1,VN _ _ _,Ag.nil _ _,Aw.refl _ _,a2⟩
 case round =>
  obtain⟨k,A,c,fc,hk,rfl,t0,t1,how,hfr,hup,tf⟩:=hrel;have jZ:=hup.size;have hzr:w1.heap.size<wr.heap.size:=by omega
  by_cases hlt:k<n
  .have WB:Below wr.heap.size wr ((wr.alloc (.cells MC 77)).alloc (.cells #[.slice (some ⟨wr.heap.size,0,none⟩) n n] 62)):=Ze (Ze (Below.refl _ _) _) _;have hrow:Own ((wr.alloc (.cells MC 77)).alloc (.cells #[.slice (some ⟨wr.heap.size,0,none⟩) n n] 62)) wr.heap.size 77 6 (some ⟨wr.heap.size,0,none⟩) n n (Zk n J5):=(Own.lit wr _ n 6 J5 (Nat.le_refl _) HMC.out rfl o_ (by simp only[maxLen];omega)).Aj _;obtain⟨hz1,hz2⟩:=Za1 hrow (Zog _);obtain⟨css,hco,hpush⟩:=Bt.push Mo (B:=w1.heap.size+1) (how.below Mo WB) (hfr.grow WB.size) (f:=[wr.heap.size]) (cs:=[.slice (some ⟨wr.heap.size,0,none⟩) n n]) (x:=LV n) ⟨⟨some ⟨wr.heap.size,0,none⟩,n,n⟩,rfl,hz1⟩ (hz2.Ay o_) (fun q hq hm=>by have:=hfr.hi q hq;simp at hm;omega) AR;have hrw:Row ((wr.alloc (.cells MC 77)).alloc (.cells #[.slice (some ⟨wr.heap.size,0,none⟩) n n] 62)) (some ⟨wr.heap.size+1,0,none⟩) 1 1 [[.slice (some ⟨wr.heap.size,0,none⟩) n n]]:=Yh _ _ [.slice (some ⟨wr.heap.size,0,none⟩) n n] 1 _ s_
   have Te:Hid (∀ q,ob A=some q->q≠w1.heap.size):=fun q hq e=>by
    have:=hfr.lo q (how.CQ q (ZR.2 hq));omega
   have hAq:Hid (∀ q,ob A=some q->w1.heap.size+1<=q):=fun q hq=>hfr.lo q (how.CQ q (ZR.2 hq))
   have bB:=Z5 hco;have HP:=Z5 hpush;clear hco hpush hrow hz1 hz2;go_wp2_with fail
   go_region_law (first
    |(refine YB rfl (.tmp 22) (.tmp 25) 27 rfl 0 62 1 24 l0 _ underlying27 hl hx0 hx1 hx2 rfl o_ A k c css rfl (bB.out.keep fun _ _=>rfl) (some ⟨wr.heap.size+1,0,none⟩) 1 1 [[.slice (some ⟨wr.heap.size,0,none⟩) n n]] rfl (Row.below hrw (ZY (Below.refl _ _))) s_ (by simp[Value.oneCell']) (by simp only[maxLen];omega) o_ (Zs _) ?_;intro A3 c3 w3 ho3 hg3 GY;have tb0:w3.cell? ⟨w1.heap.size,0,none⟩=some (.slice (some ⟨w.heap.size+1,0,none⟩) n n):=World.grownBy.cell hg3 (Zm (ZY WB) t0) (fun e=>Te.out _ e.symm rfl);have tb1:w3.cell? ⟨w1.heap.size,1,none⟩=some (.slice A k c):=World.grownBy.cell hg3 (Zm (ZY WB) t1) (fun e=>Te.out _ e.symm rfl);have tbf:∀ o,w3.frozen? ⟨w1.heap.size,o,none⟩=false:=(fun o=>(NH hg3 w1.heap.size AR (fun q hq=>Te.out q hq) o).trans ((Q6 (ZY WB) w1.heap.size hzr o).trans (tf o)))))
   all_goals
    obtain⟨fs',hs',hf'⟩:=HP.out w3 A3 c3 ho3 ⟨hg3.os,hg3.tape,hg3.output,hg3.size,hg3.block⟩ GY;rw[Zlw]at hs';have hu3:Aw [w1.heap.size] W0 w3:=⟨hg3.os.trans hup.os,hg3.tape.trans hup.tape,hg3.output.trans hup.output,Zj (Zj hup.size WB.size) hg3.size,fun q hq hn=>(hg3.block q (Zf hq (Zj hup.size WB.size)) (fun e=>by have:=hAq.out q e.symm;omega)).trans ((WB.block q (Zf hq hup.size)).trans (hup.block q hq hn))⟩;have hz3:w1.heap.size<w3.heap.size:=by have:=hu3.size;omega
    have FK:=hu3.AA (p:=⟨w1.heap.size,1,none⟩) s_ (.slice A3 (k+1) c3);have hs4:=hs'.upd Mo ((Aw.refl [w1.heap.size] w3).AA (p:=⟨w1.heap.size,1,none⟩) s_ (.slice A3 (k+1) c3)) (fun q hq hm=>by have:=hf'.lo q hq;simp at hm;omega);have DF:Ag (w1.heap.size+1) (w3.setCell ⟨w1.heap.size,1,none⟩ (.slice A3 (k+1) c3)) fs':=hf'.grow s_;have tb2:(w3.setCell ⟨w1.heap.size,1,none⟩ (.slice A3 (k+1) c3)).cell? ⟨w1.heap.size,0,none⟩=some (.slice (some ⟨w.heap.size+1,0,none⟩) n n):=by go_simp
    have tb3:(w3.setCell ⟨w1.heap.size,1,none⟩ (.slice A3 (k+1) c3)).cell? ⟨w1.heap.size,1,none⟩=some (.slice A3 (k+1) c3):=by go_simp
    have tbg:∀ o,(w3.setCell ⟨w1.heap.size,1,none⟩ (.slice A3 (k+1) c3)).frozen? ⟨w1.heap.size,o,none⟩=false:=fun o=>by simp[tbf]
    go_wp2_with fail;go_roundw
    case rel=>exact⟨k+1,A3,c3,fs',o_,by go_num,tb2,tb3,hs4,DF,FK,tbg⟩
    case measure=>simp[intOf];omega
  .obtain rfl:k=n:=by omega
   have hR1:=hR0.upd hup (fun q hq hm=>by simp[AQ,ob]at hq hm;omega);obtain⟨hz1,hz2⟩:=Za1 hR1 (Zl8 _);have kk0:=F5 hup w.heap.size o_ AR;have kk1:=NB hup w.heap.size o_ AR;have hne:w.heap.size≠w1.heap.size:=by omega
   go_wp2_with fail;refine bodyPost_ret (v:=.tuple #[QL ⟨⟨some ⟨w.heap.size+1,0,none⟩,k,k⟩,⟨A,k,c⟩,[w.heap.size+1],fc⟩,.bool true]) (by simp[*,results,results6,go_sem]) rfl ?_;rw[hfin.out];have uS:Aw [w.heap.size] wr (((wr.setCell ⟨w.heap.size,0,none⟩ (.slice (some ⟨w.heap.size+1,0,none⟩) k k))).setCell ⟨w.heap.size,1,none⟩ (.slice A k c)):=Cs;refine⟨_,rfl,⟨hz1.upd NF uS (fun q hq hm=>by simp at hq hm;omega),how.upd Mo uS (fun q hq hm=>by have:=hfr.lo q hq;simp at hm;omega)⟩,?_,?_⟩
   .exact Ag.append ((hz2.Ay o_).grow uS.size) (hfr.grow uS.size) o_ (fun q hq=>by simp at hq;omega)
   .exact Dq (Dq hB0 hup (fun q hq=>by simp at hq;omega)) uS (fun q hq=>by simp at hq;omega)
end Go.Proofs.YtcnbphnnfmphlaaGreatDoor
