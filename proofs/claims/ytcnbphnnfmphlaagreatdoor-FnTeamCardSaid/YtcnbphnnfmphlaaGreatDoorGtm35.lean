/- Texts of this proof. -/
import Derived.Test.YtcnbphnnfmphlaaGreatDoorGtm32
namespace Go.Proofs.YtcnbphnnfmphlaaGreatDoor
open Bool renaming exists_bool → Z3
open _root_.List renaming getElem?_eq_getElem → Z4,mem_of_getElem? → Z6,mem_append → Z9,replicate → Zk,take_of_length_le → Zp,all_eq_true → Zu,mem_map → ZB,getElem_of_mem → ZM
open Nat renaming zero_le → Zs
open Option.some renaming inj → Z7
open Go.Proofs.Tryz
open Go.RowKit
set_option linter.unusedVariables false
set_option linter.unusedSimpArgs false
set_option maxHeartbeats 4000000
set_option maxRecDepth 100000
theorem Qk(c:Cd)(hl:c.ps.length<=100000)(g:Mb c):AF prog 158 [.agg [.int .i64 c.nd,.bool (decide (c.tot.num<0)),.sl false 3 1 (iE (Zz c.tot.num.natAbs)),.sl false 3 1 (iE (Zz c.tot.den)),.sl true 233 10 (pE c.ps)]] (fun r=>∃ b,r=.bool b/\(b=true->VC c)):=by
 have n0:=Zdz c.tot g.1;have hz:=Yf 0 o_ o_;have ho:=Yf 1 o_ o_;have gz:Bq (Dw 0):=YS AO;have go:Bq (Dw 1):=YS AO;generalize Dw 0=z at *
 generalize Dw 1=one at *
 obtain⟨s,hs⟩:∃ s,s=IY c.tot:=⟨_,rfl⟩;rw[<- hs]at n0;by_cases h1:c.nd<1
 .refine BI func158 ntmps158 results158 ?_;simp -implicitDefEqProofs [-getElem?_pos,-exists_and_left,-exists_and_right,-Z3,h1];refine Zr (r:=.bool false) ?_ rfl ⟨_,rfl,s_⟩;simp -implicitDefEqProofs [-getElem?_pos,-exists_and_left,-exists_and_right,-Z3]
 by_cases h2:10<=c.nd
 .refine BI func158 ntmps158 results158 ?_;simp -implicitDefEqProofs [-getElem?_pos,-exists_and_left,-exists_and_right,-Z3,h1,h2];refine Zr (r:=.bool false) ?_ rfl ⟨_,rfl,s_⟩;simp -implicitDefEqProofs [-getElem?_pos,-exists_and_left,-exists_and_right,-Z3]
 by_cases h3:s<=0
 .refine BI func158 ntmps158 results158 ?_;simp -implicitDefEqProofs [-getElem?_pos,-exists_and_left,-exists_and_right,-Z3,h1,h2];refine Ah [] n0 ?_;simp -implicitDefEqProofs [-getElem?_pos,-exists_and_left,-exists_and_right,-Z3,h3];refine Zr (r:=.bool false) ?_ rfl ⟨_,rfl,s_⟩;simp -implicitDefEqProofs [-getElem?_pos,-exists_and_left,-exists_and_right,-Z3]
 by_cases h4:c.ps.length=0
 .refine BI func158 ntmps158 results158 ?_;simp -implicitDefEqProofs [-getElem?_pos,-exists_and_left,-exists_and_right,-Z3,h1,h2];refine Ah [] n0 ?_;simp -implicitDefEqProofs [-getElem?_pos,-exists_and_left,-exists_and_right,-Z3,h3,h4];refine Zr (r:=.bool false) ?_ rfl ⟨_,rfl,s_⟩;simp -implicitDefEqProofs [-getElem?_pos,-exists_and_left,-exists_and_right,-Z3]
 refine BI func158 ntmps158 results158 ?_;simp -implicitDefEqProofs [-getElem?_pos,-exists_and_left,-exists_and_right,-Z3,h1,h2];refine Ah [] n0 ?_;simp -implicitDefEqProofs [-getElem?_pos,-exists_and_left,-exists_and_right,-Z3,h3,h4];refine Ah [] hz ?_;simp -implicitDefEqProofs [-getElem?_pos,-exists_and_left,-exists_and_right,-Z3,dQ];refine ZF (fun σ=>∃ (k s3:Nat) (q:Rt),k<=c.ps.length/\Bq q/\(∀ (i:Nat) p,i<k->c.ps[i]? = some p->(i:Int)<=p.nd/\p.nd<=9)/\σ.env 1=.ptr 1 0 0 0/\σ.box 1=some ⟨161,5,0,[[.int .i64 c.nd,.bool (decide (c.tot.num<0)),.sl false 3 1 (iE (Zz c.tot.num.natAbs)),.sl false 3 1 (iE (Zz c.tot.den)),.sl true 233 10 (pE c.ps)]],false⟩/\σ.env 3=.ptr 3 s3 0 0/\σ.box 3=some ⟨47,3,s3,[dQ q],false⟩/\σ.env 28=.sl true 233 10 (pE c.ps)/\σ.env 29=.int .i64 c.ps.length/\σ.env 30=.int .i64 k) (fun σ=>100001-BU (σ.env 30)) (AZ _) ?_ ?_
 .exact⟨0,_,z,Zs _,gz,fun i p h=>by omega,s_,s_,by simp;rfl,by simp[dQ]⟩
 .rintro σ ⟨k,s3,q,hk,gq,hup,E⟩;by_cases ga:k<c.ps.length
  .obtain⟨x,hx⟩:∃ x,c.ps[k]? = some x:=⟨_,Z4 ga⟩;have hx2:=Po hx;have gx:=g.2 x (Z6 hx);have m1:=Xu x.nd;have m2:=Zdz x.sh gx.1;have m3:=oW x.dx gx.2.1;have m4:=oW x.dy gx.2.2;have m5:=Yy q x.sh gq gx.1;have g5:=Q2 q x.sh;generalize Xc q x.sh=q2 at *
   generalize IY x.sh=sx at *
   generalize QC x.dx=ox at *
   generalize QC x.dy=oy at *
   obtain⟨y,hy⟩:∃ y,c.ps[k-1]? = some y:=⟨_,Z4 o_⟩;have hy2:=Po hy;have ek:0<k->((k:Int)-1).toNat=k-1:=fun h=>by omega
   have ek2:0<k->0<=(k:Int)-1:=fun h=>by omega
   cases b1':Gr x.nd
   .rw[b1']at m1;simp -implicitDefEqProofs [-getElem?_pos,-exists_and_left,-exists_and_right,-Z3,E,ga,hx2,Cv];refine Ah [] m1 ?_;simp -implicitDefEqProofs [-getElem?_pos,-exists_and_left,-exists_and_right,-Z3,E,ga,hx2,Cv];refine⟨EM BC,?_⟩;refine Zr (r:=.bool false) ?_ rfl ⟨_,rfl,s_⟩;simp -implicitDefEqProofs [-getElem?_pos,-exists_and_left,-exists_and_right,-Z3]
   rw[b1']at m1;by_cases b2':x.nd=c.nd
   .simp -implicitDefEqProofs [-getElem?_pos,-exists_and_left,-exists_and_right,-Z3,E,ga,hx2,Cv];refine Ah [] m1 ?_;simp -implicitDefEqProofs [-getElem?_pos,-exists_and_left,-exists_and_right,-Z3,E,ga,hx2,Cv,b2'];refine⟨EM BC,?_⟩;refine Zr (r:=.bool false) ?_ rfl ⟨_,rfl,s_⟩;simp -implicitDefEqProofs [-getElem?_pos,-exists_and_left,-exists_and_right,-Z3]
   by_cases pK:0<k/\x.nd<=y.nd
   .obtain⟨hk0,hyx⟩:=pK;simp -implicitDefEqProofs [-getElem?_pos,-exists_and_left,-exists_and_right,-Z3,E,ga,hx2,Cv];refine Ah [] m1 ?_;simp -implicitDefEqProofs [-getElem?_pos,-exists_and_left,-exists_and_right,-Z3,E,ga,hx2,Cv,b2',hk0,hyx,hy2,ek,ek2]
    ((repeat' with_reducible apply And.intro)<;> try exact Ye);refine Zr (r:=.bool false) ?_ rfl ⟨_,rfl,s_⟩;simp -implicitDefEqProofs [-getElem?_pos,-exists_and_left,-exists_and_right,-Z3]
   have hnd:(k:Int)<=x.nd:=by
    have:=fQ.1 b1';rcases Nat.eq_zero_or_pos k with h|h
    .omega
    .have:=hup (k-1) y o_ hy;have h2:¬ x.nd<=y.nd:=fun h2=>pK ⟨h,h2⟩
     omega
   have Z0V:=(fQ.1 b1').2
   have Z1v:∀ (i:Nat) p,i<k+1->c.ps[i]? = some p->(i:Int)<=p.nd/\p.nd<=9:=fun i p hi hp=>by
    rcases Nat.lt_or_ge i k with h|h
    .exact hup i p h hp
    .obtain rfl:i=k:=by omega
     rw[hx]at hp;cases hp;exact⟨hnd,Z0V⟩
   have b4:0<k->¬ x.nd<=y.nd:=fun h h2=>pK ⟨h,h2⟩
   clear pK;by_cases hk0:0<k
   all_goals
    simp -implicitDefEqProofs [-getElem?_pos,-exists_and_left,-exists_and_right,-Z3,E,ga,hx2,Cv];refine Ah [] m1 ?_;simp -implicitDefEqProofs [-getElem?_pos,-exists_and_left,-exists_and_right,-Z3,E,ga,hx2,Cv,b2',hk0,b4,hy2,ek,ek2]
    ((repeat' with_reducible apply And.intro)<;> try exact Ye);refine Ah [] m2 ?_;simp -implicitDefEqProofs [-getElem?_pos,-exists_and_left,-exists_and_right,-Z3,E,ga,hx2,Cv];by_cases c1:sx<=0
    .simp -implicitDefEqProofs [-getElem?_pos,-exists_and_left,-exists_and_right,-Z3,E,ga,hx2,Cv,c1];refine Zr (r:=.bool false) ?_ rfl ⟨_,rfl,s_⟩;simp -implicitDefEqProofs [-getElem?_pos,-exists_and_left,-exists_and_right,-Z3]
    simp -implicitDefEqProofs [-getElem?_pos,-exists_and_left,-exists_and_right,-Z3,E,ga,hx2,Cv,c1];refine Ah [] m3 ?_;cases ox
    .simp -implicitDefEqProofs [-getElem?_pos,-exists_and_left,-exists_and_right,-Z3,E,ga,hx2,Cv,c1];refine Zr (r:=.bool false) ?_ rfl ⟨_,rfl,s_⟩;simp -implicitDefEqProofs [-getElem?_pos,-exists_and_left,-exists_and_right,-Z3]
    simp -implicitDefEqProofs [-getElem?_pos,-exists_and_left,-exists_and_right,-Z3,E,ga,hx2,Cv,c1];refine Ah [] m4 ?_;cases oy
    .simp -implicitDefEqProofs [-getElem?_pos,-exists_and_left,-exists_and_right,-Z3,E,ga,hx2,Cv,c1];refine Zr (r:=.bool false) ?_ rfl ⟨_,rfl,s_⟩;simp -implicitDefEqProofs [-getElem?_pos,-exists_and_left,-exists_and_right,-Z3]
    simp -implicitDefEqProofs [-getElem?_pos,-exists_and_left,-exists_and_right,-Z3,E,ga,hx2,Cv,c1,dQ];refine Ah [] m5 ?_;simp -implicitDefEqProofs [-getElem?_pos,-exists_and_left,-exists_and_right,-Z3,E,ga,hx2,Cv,c1,dQ]
    ((repeat' with_reducible apply And.intro)<;> try exact Ye);refine BD (AZ _) ⟨k+1,s3,q2,o_,g5,Z1v,by simp[E,dQ]⟩ (by simp[E];omega)
  .obtain rfl:k=c.ps.length:=by omega
   have n1:=Xy q one gq go;simp -implicitDefEqProofs [-getElem?_pos,-exists_and_left,-exists_and_right,-Z3,E,dQ];refine Ah [] ho ?_;simp -implicitDefEqProofs [-getElem?_pos,-exists_and_left,-exists_and_right,-Z3,E,dQ];refine Ah [] n1 ?_;simp -implicitDefEqProofs [-getElem?_pos,-exists_and_left,-exists_and_right,-Z3,E,dQ];refine⟨EM BC,?_⟩
   have hlen:c.ps.length<=10:=by
    rcases Nat.lt_or_ge 10 c.ps.length with h|h
    .have:=hup 10 c.ps[10] h (Z4 h);omega
    .exact h
   refine Zr (r:=.bool (decide (q=one))) ?_ rfl ⟨_,rfl,fun _=>⟨o_,fun p hp=>?_,hlen⟩⟩
   .simp -implicitDefEqProofs [-getElem?_pos,-exists_and_left,-exists_and_right,-Z3]
   .obtain⟨i,hi,rfl⟩:=ZM hp;have:=hup i _ hi (Z4 hi);omega
theorem Zr0{l:Lk}(g:D6 l):RLb (IZ l):=⟨by show(Zz _).length<=_;have:=g.1.nl;omega,by show(Zz _).length<=_;have:=g.1.dl;omega,by show(Zz _).length<=_;have:=g.2.1.nl;omega,by show(Zz _).length<=_;have:=g.2.1.dl;omega,by show(Zz _).length<=_;have:=g.2.2.nl;omega,by show(Zz _).length<=_;have:=g.2.2.dl;omega⟩
theorem Zqb(l:Lk)(g:D6 l):Spec prog 151 [.agg (Bd l)] (.bool (QU l)):=by
 have h:=Z08 (IZ l) (Zr0 g);rw[ZdR g,ZnT]at h;exact h
theorem Zp8(ls:List Lk)(hl:ls.length<=100000)(hg:∀ l∈ls,D6 l):∃ b,(b=true↔Dn ls)/\Spec prog 119 [.sl true 186 11 (kE ls)] (.bool b):=by
 have h0:=Z6U (ls.map IZ) AR (fun l h=>by
  obtain⟨x,hx,rfl⟩:=ZB.1 h;exact Zr0 (hg x hx))
 rw[Zsx]at h0;exact⟨_,ZjS hg,h0⟩
theorem ZjQ(ls:List Lk)(h:Dn ls):Spec prog 119 [.sl true 186 11 (kE ls)] (.bool true):=by
 obtain⟨b,hb,hs⟩:=Zp8 ls (by have:=h.len;omega) h.good;rw[hb.2 h]at hs;exact hs
theorem Z5C(ls:List Lk)(hl:ls.length<=100000)(hg:∀ l∈ls,D6 l):Spec prog 113 [.sl true 186 11 (kE ls)] (.bool (ls.all QU)):=by
 obtain⟨b,hb⟩:∃ b,b=ls.all QU:=⟨_,rfl⟩;rw[<- hb];refine Bj func113 ntmps113 results113 ?_;simp[-getElem?_pos,-exists_and_left,-exists_and_right];refine Ec (fun σ=>∃ k:Nat,k<=ls.length/\(∀ x∈ls.take k,QU x=true)/\σ.env 5=.sl true 186 11 (kE ls)/\σ.env 6=.int .i64 ls.length/\σ.env 7=.int .i64 k) (fun σ=>100001-BU (σ.env 7)) ?_ ?_
 .exact⟨0,Zs _,s_⟩
 .rintro σ ⟨k,hk,hv,E⟩;by_cases ga:k<ls.length
  .obtain⟨x,hx⟩:∃ x,ls[k]? = some x:=⟨_,Z4 ga⟩;have hx2:=Pm hx;have hm:=Z6 hx;have n1:=Zqb x (hg x hm);cases hc:QU x
   .rw[hc]at n1
    have hb2:b=false:=by
     rw[hb,List.all_eq_false];exact⟨x,hm,by rw[hc];simp[-getElem?_pos,-exists_and_left,-exists_and_right]⟩
    simp[-getElem?_pos,-exists_and_left,-exists_and_right,E,ga,hx2,Bd];refine Ah [] n1 ?_;simp[-getElem?_pos,-exists_and_left,-exists_and_right,E,ga,hx2,hb2]
   .rw[hc]at n1;simp[-getElem?_pos,-exists_and_left,-exists_and_right,E,ga,hx2,Bd];refine Ah [] n1 ?_;simp[-getElem?_pos,-exists_and_left,-exists_and_right,E,ga,hx2,Bd]
    ((repeat' with_reducible apply And.intro)<;> try exact Ye);refine⟨k+1,o_,fun y hy=>?_,o_⟩;rw[QI hx]at hy;rcases Z9.1 hy with h|h
    .exact hv y h
    .rw[List.mem_singleton.1 h];exact hc
  .obtain rfl:k=ls.length:=by omega
   rw[List.take_length]at hv;have hb2:b=true:=by rw[hb,Zu];exact hv
   simp[-getElem?_pos,-exists_and_left,-exists_and_right,E,hb2]
def Pq(ls:List Lk):Option (List Lk×Rt):=if ls.all QU then Ph ls else none
theorem ZcX{ls m:List Lk}{e:Rt}(hg:∀ k∈ls,D6 k)(h:Pq ls=some (m,e)):Dn m/\Bq e/\QC e=true/\∀ k∈ls,QU k=true:=by
 unfold Pq at h;split at h
 .rename_i hv;rw[Zu]at hv;obtain⟨h1,h2,h3⟩:=fT hg hv h;exact⟨h1,h2,h3,hv⟩
 .cases h
theorem Z1t(ls:List Lk)(hl:ls.length<=100000)(hg:∀ l∈ls,D6 l):Spec prog 84 [.sl true 186 11 (kE ls)] (GM (Pq ls)):=by
 obtain⟨R,hR⟩:∃ R,R=GM (Pq ls):=⟨_,rfl⟩;have hok:GG R=true:=by rw[hR];exact ZbQ _
 rw[<- hR];have n1:=Z5C ls hl hg;cases hv:ls.all QU
 .have hR':R=.tup [.sl false 186 11 [],.agg [.bool false,.sl false 3 1 [],.sl false 3 1 []],.bool false]:=by
   rw[hR,<- Jb];unfold Pq;rw[hv];rfl
  rw[hv]at n1;refine Qu M8 func84 rfl rfl ntmps84 results84 (by decide +kernel) rfl rfl hok ?_;simp[-getElem?_pos,-exists_and_left,-exists_and_right];refine Ah [] n1 ?_;simp[-getElem?_pos,-exists_and_left,-exists_and_right,hR']
 .have n2:=Jg ls hl hg;rw[hv]at n1;cases hj:Ph ls with
  |none =>
   have hR':R=.tup [.sl false 186 11 [],.agg [.bool false,.sl false 3 1 [],.sl false 3 1 []],.bool false]:=by
    rw[hR,<- Jb];unfold Pq;rw[hv,hj];rfl
   rw[hj]at n2;simp only[GM,Jb]at n2;refine Qu M8 func84 rfl rfl ntmps84 results84 (by decide +kernel) rfl rfl hok ?_;simp[-getElem?_pos,-exists_and_left,-exists_and_right];refine Ah [] n1 ?_;simp[-getElem?_pos,-exists_and_left,-exists_and_right];refine Ah [] n2 ?_;simp[-getElem?_pos,-exists_and_left,-exists_and_right,hR']
  |some p =>
   obtain⟨m,e⟩:=p
   have hR':R=.tup [.sl false 186 11 (kE m),.agg (dQ e),.bool true]:=by
    rw[hR];unfold Pq;rw[hv,hj];rfl
   have hv2:=Zu.1 hv;have n3:=Jh m (by have:=(fT hg hv2 hj).1.len;omega) (fT hg hv2 hj).1.good;rw[hj]at n2;simp only[GM]at n2;refine Qu M8 func84 rfl rfl ntmps84 results84 (by decide +kernel) rfl rfl hok ?_;simp[-getElem?_pos,-exists_and_left,-exists_and_right];refine Ah [] n1 ?_;simp[-getElem?_pos,-exists_and_left,-exists_and_right];refine Ah [] n2 ?_;simp[-getElem?_pos,-exists_and_left,-exists_and_right,dQ];refine Ah [] n3 ?_;simp[-getElem?_pos,-exists_and_left,-exists_and_right,hR',dQ]
   ((repeat' with_reducible apply And.intro)<;> try exact Ye)
theorem Z5A(l:List Int)(n:Int)(hl:l.length<=100000):Spec prog 124 [.sl true 3 1 (iE l),.int .i64 n] (.own 3 1 (iE (l.filter fun x=>!decide (x=n)))):=by
 refine Bj func124 ntmps124 results124 ?_;simp[-getElem?_pos,-exists_and_left,-exists_and_right];refine Ec (fun σ=>∃ k st:Nat,k<=l.length/\σ.env 1=.int .i64 n/\σ.env 5=.vw 8 st/\σ.env 9=.sl true 3 1 (iE l)/\σ.env 10=.int .i64 l.length/\σ.env 11=.int .i64 k/\σ.box 8=some ⟨3,1,st,iE ((l.take k).filter fun x=>!decide (x=n)),true⟩) (fun σ=>100001-BU (σ.env 11)) ?_ ?_
 .exact⟨0,_,Zs _,s_,by simp;rfl,by simp[iE]⟩
 .rintro σ ⟨k,st,hk,E⟩;have b8:=E.2.2.2.2.2;by_cases ga:k<l.length
  .obtain⟨x,hx⟩:∃ x,l[k]? = some x:=⟨_,Z4 ga⟩;have hx2:=Yu hx;have hrl:(l.take (k+1)).filter (fun x=>!decide (x=n))=(l.take k).filter (fun x=>!decide (x=n))++[x].filter (fun x=>!decide (x=n)):=by rw[QI hx];exact List.filter_append ..
   have hlen:(iE ((l.take k).filter fun x=>!decide (x=n))).length<=k:=by
    rw[ZjZ];exact Nat.le_trans (List.length_filter_le _ _) AR
   by_cases h1:x=n
   .have hn:iE ((l.take k).filter fun x=>!decide (x=n))=iE ((l.take (k+1)).filter fun x=>!decide (x=n)):=by rw[hrl];simp[-getElem?_pos,-exists_and_left,-exists_and_right,h1]
    generalize iE ((l.take k).filter fun x=>!decide (x=n))=E0 at *
    simp[-getElem?_pos,-exists_and_left,-exists_and_right,E,ga,hx2,h1]
    ((repeat' with_reducible apply And.intro)<;> try exact Ye);exact⟨k+1,st,o_,rfl,o_,rfl,hn⟩
   .have hn:iE ((l.take k).filter fun x=>!decide (x=n))++[[.int .i64 x]]=iE ((l.take (k+1)).filter fun x=>!decide (x=n)):=by rw[hrl,QH];simp[-getElem?_pos,-exists_and_left,-exists_and_right,h1]
    generalize iE ((l.take k).filter fun x=>!decide (x=n))=E0 at *
    simp[-getElem?_pos,-exists_and_left,-exists_and_right,E,ga,hx2,h1]
    ((repeat' with_reducible apply And.intro)<;> try exact Ye);exact⟨k+1,_,o_,rfl,o_,rfl,hn⟩
  .obtain rfl:k=l.length:=by omega
   rw[List.take_length]at b8;simp[-getElem?_pos,-exists_and_left,-exists_and_right,E]
def bE(l:List Bool):List AV:=l.map .bool
@[simp] theorem Ztj(l:List Bool):(bE l).length=l.length:=by simp[bE]
theorem pM{l:List Bool}{k:Nat}(h:k<l.length):∃ b,List.drop k (bE l)=.bool b::bE (l.drop (k+1)):=by
 refine⟨l[k],?_⟩;unfold bE;rw[<- List.map_drop,List.drop_eq_getElem_cons h];rfl
theorem VF(l:List Bool)(k:Nat)(b:Bool)(h:k<l.length):∃ m:List Bool,m.length=l.length/\List.take k (bE l)++AV.bool b::List.drop (k+1) (bE l)=bE m:=by
 refine⟨l.take k++b::l.drop (k+1),AR,?_⟩;unfold bE;simp[-getElem?_pos,-exists_and_left,-exists_and_right,List.map_take,List.map_drop]
theorem RJ(l:List Bool):(bE l).all Dj=true:=by rw[Zu];intro x hx;obtain⟨b,_,rfl⟩:=ZB.1 hx;rfl
theorem Pp(l:List Bool):(bE l).all KY=true:=by rw[Zu];intro x hx;obtain⟨b,_,rfl⟩:=ZB.1 hx;rfl
theorem Z8I{box:Nat->Option AY}{C6:Option Nat}:∀ {l:List AV},l.all Dj=true->eH box C6 l l
 |[],_=>trivial
 |d::l,h=>by
  simp only[List.all_cons,Bool.and_eq_true]at h
  refine⟨?_,Z8I h.2⟩
  have h1:=h.1
  cases d
  case sl ns E sz els=>cases ns<;>first|exact⟨rfl,rfl⟩| cases h1
  all_goals first|exact⟨rfl,rfl⟩| cases h1
theorem ZpR(l:List Bool)(k n:Nat)(h:k+n<=l.length):∃ m:List Bool,m.length=n/\List.take n (List.drop k (bE l))=bE m:=by
 refine⟨(l.drop k).take n,AR,?_⟩;unfold bE;rw[List.map_take,List.map_drop]
def zB(n:Nat):List Bool:=Zk n false
theorem Md(n:Nat):(zB n).length=n:=by unfold zB;exact List.length_replicate
theorem Zof:YZ prog 197=some (bE (zB 100)):=by kernel_rfl
def ZsS(r:AV):Prop:=∃ bs:List Bool,bs.length=100/\r=.agg (bE bs)
theorem Zbz(ls:List Lk)(hs:Dn ls):AF prog 120 [.sl true 186 11 (kE ls)] ZsS:=by
 have hl:=hs.len;refine BI func120 ntmps120 results120 ?_;simp[-getElem?_pos,-exists_and_left,-exists_and_right,-Xo,Zof,Md,RJ];refine Ec (fun σ=>∃ (k:Nat) (bs:List Bool),k<=ls.length/\bs.length=100/\σ.env 2=.ptr 2 0 0 0/\σ.env 3=.ptr 3 1 0 0/\σ.env 6=.sl true 186 11 (kE ls)/\σ.env 7=.int .i64 ls.length/\σ.env 8=.int .i64 k/\σ.box 2=some ⟨197,100,0,[bE (zB 100)],false⟩/\σ.box 3=some ⟨197,100,1,[bE bs],false⟩) (fun σ=>101-BU (σ.env 8)) ?_ ?_
 .exact⟨0,zB 100,Zs _,Md 100,s_⟩
 .rintro σ ⟨k,bs,hk,hb,E⟩;by_cases ga:k<ls.length
  .obtain⟨x,hx⟩:∃ x,ls[k]? = some x:=⟨_,Z4 ga⟩;have hx2:=Pm hx;obtain⟨h1,h2,h3⟩:=VB (hs.F7 x (Z6 hx));obtain⟨A,hA⟩:∃ A:Nat,x.a=A:=⟨x.a.toNat,o_⟩;obtain⟨B,hB⟩:∃ B:Nat,x.b=B:=⟨x.b.toNat,o_⟩;have a1:(A:Int)< 10:=by omega
   have a2:(B:Int)< 10:=by omega
   obtain⟨m1,l1,p1⟩:=VF bs (A*10+B) true o_;obtain⟨m2,l2,p2⟩:=VF m1 (B*10+A) true o_;simp[-getElem?_pos,-exists_and_left,-exists_and_right,E,ga,hx2,Bd,hA,hB,a1,a2,p1,p2,hb,l1]
   ((repeat' with_reducible apply And.intro)<;> try exact Ye);exact⟨k+1,m2,o_,o_,o_,rfl⟩
  .obtain rfl:k=ls.length:=by omega
   have tk:List.take 100 (bE bs)=bE bs:=Zp (by simp[hb]);have dr:List.drop 100 (bE (zB 100))=[]:=List.drop_eq_nil_of_le (by simp[Md]);simp[-getElem?_pos,-exists_and_left,-exists_and_right,E,hb,Md,tk,dr,Pp];refine Zr (r:=.agg (bE bs)) ?_ (RJ bs) ⟨bs,hb,rfl⟩;simp[-getElem?_pos,-exists_and_left,-exists_and_right,E,hb,Md,tk,dr,Pp];exact⟨none,Z8I (RJ bs)⟩
theorem ZkL{l:List Bool}{p:AV->Prop}(h:∀ b,p (.bool b)):∀ c,c∈bE l->p c:=fun c hc=>by
 obtain⟨b,_,rfl⟩:=ZB.1 hc;exact h b
theorem ZeK(fz:List Nat)(box:Nat->Option AY)(l:List Bool):(bE l).map (Hz fz box)=bE l:=by
 unfold bE;rw[List.map_map];rfl
theorem Zo1{l:List Bool}(h:l.length=100):List.take 100 (bE l)=bE l:=Zp (by simp[h])
theorem ZnI(l:List Bool):(bE l).all Vo=true:=by rw[Zu];intro x hx;obtain⟨b,_,rfl⟩:=ZB.1 hx;rfl
theorem Z4y(bs:List Bool)(hb:bs.length=100)(V:Nat)(hv:V<=9):AF prog 122 [.agg (bE bs),.int .i64 V] (fun r=>∃ n:Int,0<=n/\n<=10/\r=.int .i64 n):=by
 have Ku:List.all [.agg (bE bs),.int .i64 V] O0=true:=by simp[O0,ZnI,Vo]
 have v1:(V:Int)< 10:=by omega
 obtain⟨rs,hr,pr⟩:=ZpR bs (V*10) 10 o_;refine Z1n M8 func122 rfl rfl ntmps122 results122 (by decide +kernel) rfl Ku ?_;simp[-getElem?_pos,-exists_and_left,-exists_and_right,hb,Pp,v1,pr]
 ((repeat' with_reducible apply And.intro)<;> try exact Ye);refine Ec (fun σ=>∃ (k:Nat) (n:Int),k<=10/\0<=n/\n<=k/\σ.env 5=.int .i64 n/\σ.env 10=.agg (bE rs)/\σ.env 11=.int .i64 k) (fun σ=>11-BU (σ.env 11)) ?_ ?_
 .exact⟨0,0,o_,o_,o_,s_⟩
 .rintro σ ⟨k,n,hk,hn,hnk,E⟩;by_cases ga:(k:Int)< 10
  .obtain⟨b,hbd⟩:=pM (l:=rs) (k:=k) o_;cases b
   .simp[-getElem?_pos,-exists_and_left,-exists_and_right,E,ga,hbd,hr]
    ((repeat' with_reducible apply And.intro)<;> try exact Ye);exact⟨k+1,n,o_,hn,o_,rfl,o_⟩
   .simp[-getElem?_pos,-exists_and_left,-exists_and_right,E,ga,hbd,hr]
    ((repeat' with_reducible apply And.intro)<;> try exact Ye);exact⟨k+1,n+1,o_,o_,o_,rfl,o_⟩
  .simp[-getElem?_pos,-exists_and_left,-exists_and_right,E,ga];refine Zr (r:=.int .i64 n) ?_ rfl ⟨n,hn,o_,rfl⟩;simp[-getElem?_pos,-exists_and_left,-exists_and_right,E,ga]
theorem Zhv(bs:List Bool)(hb:bs.length=100)(V:Nat)(hv:V<=9):AF prog 123 [.agg (bE bs),.int .i64 V] (fun r=>∃ (m:List Bool) (n:Int),m.length=100/\0<=n/\n<=100/\r=.tup [.agg (bE m),.int .i64 n]):=by
 have Ku:List.all [.agg (bE bs),.int .i64 V] O0=true:=by simp[O0,ZnI,Vo]
 have v1:(V:Int)< 10:=by omega
 have tz:List.take 100 (bE (zB 100))=bE (zB 100):=Zp (by simp[Md]);have dz:List.drop 100 (bE (zB 100))=[]:=List.drop_eq_nil_of_le (by simp[Md]);refine Z1n M8 func123 rfl rfl ntmps123 results123 (by decide +kernel) rfl Ku ?_;simp[-getElem?_pos,-exists_and_left,-exists_and_right,hb,Pp,RJ,v1,-Xo,Zof,Md];refine Ec (fun σ=>∃ (i:Nat) (bs:List Bool) (n:Int),i<=10/\bs.length=100/\0<=n/\n<=10*i/\σ.env 1=.int .i64 V/\σ.env 2=.ptr 2 0 0 0/\σ.env 4=.ptr 4 1 0 0/\σ.env 6=.int .i64 n/\σ.env 7=.int .i64 i/\σ.box 2=some ⟨197,100,0,[bE bs],false⟩/\σ.box 4=some ⟨197,100,1,[bE (zB 100)],false⟩) (fun σ=>11-BU (σ.env 7)) ?_ ?_
 .exact⟨0,bs,0,o_,hb,o_,o_,s_⟩
 clear hb Ku bs
 .rintro σ ⟨i,bs,n,hi,hb,hn0,hn1,e1,e2,e4,e6,e7,b2,b4⟩;by_cases ga:(i:Int)< 10
  .simp[-getElem?_pos,-exists_and_left,-exists_and_right,e1,e2,e4,e6,e7,b2,b4,ga]
   ((repeat' with_reducible apply And.intro)<;> try exact Ye);refine Ec (fun σ=>∃ (j:Nat) (bs:List Bool) (n:Int),j<=10/\bs.length=100/\0<=n/\n<=10*i+j/\σ.env 1=.int .i64 V/\σ.env 2=.ptr 2 0 0 0/\σ.env 4=.ptr 4 1 0 0/\σ.env 6=.int .i64 n/\σ.env 7=.int .i64 i/\σ.env 8=.int .i64 j/\σ.box 2=some ⟨197,100,0,[bE bs],false⟩/\σ.box 4=some ⟨197,100,1,[bE (zB 100)],false⟩) (fun σ=>11-BU (σ.env 8)) ?_ ?_
   .exact⟨i+1,bs,n,o_,hb,hn0,o_,by simp[e1,e2,e4,e6,e7,b2,b4]⟩
   clear hb hn0 hn1 e1 e2 e4 e6 e7 b2 b4 bs n
   .rintro σ ⟨j,bs,n,hj,hb,hn0,hn1,E⟩;by_cases gb:(j:Int)< 10
    .obtain⟨c1,d1⟩:=pM (l:=bs) (k:=V*10+i) o_;obtain⟨c2,d2⟩:=pM (l:=bs) (k:=V*10+j) o_;obtain⟨c3,d3⟩:=pM (l:=bs) (k:=i*10+j) o_;have l1':V*10+i+1<=100:=by omega
     have l2':V*10+j+1<=100:=by omega
     have l3':i*10+j+1<=100:=by omega
     have l4':j*10+i+1<=100:=by omega
     obtain⟨m1,l1,p1⟩:=VF bs (i*10+j) true o_;obtain⟨m2,l2,p2⟩:=VF m1 (j*10+i) true o_;cases c1<;>cases c2<;>cases c3;all_goals simp[-getElem?_pos,-exists_and_left,-exists_and_right,E,ga,gb,d1,d2,d3,hb,v1,p1,p2,l1,l1',l2',l3',l4']
     all_goals ((repeat' with_reducible apply And.intro)<;> try exact Ye)
     all_goals first|exact⟨j+1,bs,n,o_,hb,o_,o_,rfl,o_,rfl⟩| exact⟨j+1,m2,n+1,o_,o_,o_,o_,rfl,o_,rfl⟩
    .simp[-getElem?_pos,-exists_and_left,-exists_and_right,E,ga,gb]
     ((repeat' with_reducible apply And.intro)<;> try exact Ye);exact⟨i+1,bs,n,o_,hb,hn0,o_,rfl,o_,rfl⟩
  .simp[-getElem?_pos,-exists_and_left,-exists_and_right,e1,e2,e4,e6,e7,b2,b4,ga];refine Ec (fun σ=>∃ (i:Nat) (bs:List Bool),i<=10/\bs.length=100/\σ.env 1=.int .i64 V/\σ.env 2=.ptr 2 0 0 0/\σ.env 4=.ptr 4 1 0 0/\σ.env 6=.int .i64 n/\σ.env 9=.int .i64 i/\σ.box 2=some ⟨197,100,0,[bE bs],false⟩/\σ.box 4=some ⟨197,100,1,[bE (zB 100)],false⟩) (fun σ=>11-BU (σ.env 9)) ?_ ?_
   .exact⟨0,bs,o_,hb,by simp[e1,e2,e4,e6,b2,b4]⟩
   clear hb e1 e2 e4 e6 e7 b2 b4 bs ga
   .rintro σ ⟨i,bs,hi,hb,E2⟩;by_cases ga:(i:Int)< 10
    .have l1':V*10+i+1<=100:=by omega
     have l2':i*10+V+1<=100:=by omega
     obtain⟨m1,l1,p1⟩:=VF bs (V*10+i) false o_;obtain⟨m2,l2,p2⟩:=VF m1 (i*10+V) false o_;simp[-getElem?_pos,-exists_and_left,-exists_and_right,E2,ga,hb,v1,p1,p2,l1,l1',l2']
     ((repeat' with_reducible apply And.intro)<;> try exact Ye);exact⟨i+1,m2,o_,o_,o_,rfl⟩
    .have tk:List.take 100 (bE bs)=bE bs:=Zp (by simp[hb]);simp[-getElem?_pos,-exists_and_left,-exists_and_right,E2,ga,hb,Md,tk,dz,Pp];refine Zr (r:=.tup [.agg (bE bs),.int .i64 n]) ?_ (by simp[GG,P7,RJ,Dj]) ⟨bs,n,hb,hn0,o_,rfl⟩;simp[-getElem?_pos,-exists_and_left,-exists_and_right,E2,ga,hb,Md,tk,dz,Pp];exact⟨none,Z8I (RJ bs)⟩
theorem ZoE{R:Nat->Prop}{w:World}{v:Value}{d e:AV}(h:Au R w v d)(hle:Ng d e)(he:Dj e=true):Au R w v e:=by
 rcases hle with rfl |⟨E,sz,els,rfl,rfl⟩|⟨rfl,ns,E,sz,rfl⟩
 .exact h
 .cases he
 .cases ns with
  |true=>cases he
  |false =>
   cases h;exact Au.sl none 0 0 E sz [] [] ⟨⟨rfl,s_⟩,s_,.inl ⟨rfl,rfl,rfl⟩,rfl,s_⟩ s_
def Ob:List (List AV)->List (List AV)->Prop
 |[],[]=>True
 |c::l,e::k=>Nh c e/\Ob l k
 |_,_=>False
theorem Zbr:∀ {l k:List (List AV)},Ob l k->l.length=k.length/\∀ (j:Nat) e,k[j]? = some e->∃ d,l[j]? = some d/\Nh d e
 |[],[],_=>⟨rfl,fun j e h=>by simp at h⟩
 |d::l,e::k,h=>⟨by rw[List.length_cons,List.length_cons,(Zbr h.2).1],fun j x hx=>by
   cases j with
   |zero=>exact⟨d,rfl,by cases hx;exact h.1⟩
   |succ j=>exact(Zbr h.2).2 j x hx⟩
 |[],_::_,h=>h.elim
 |_::_,[],h=>h.elim
theorem Za7:∀ l:List (List AV),Ob l l
 |[]=>trivial
 |c::l=>⟨J8 c,Za7 l⟩
theorem ZcT:∀ {a b c d:List (List AV)},Ob a b->Ob c d->Ob (a++c) (b++d)
 |[],[],_,_,_,h=>h
 |_::_,_::_,_,_,h,k=>⟨h.1,ZcT h.2 k⟩
 |[],_::_,_,_,h,_=>h.elim
 |_::_,[],_,_,h,_=>h.elim
theorem ZcS{c d:List AV}(h:Nh c d):∀ n,Ob (Zk n c) (Zk n d)
 |0=>trivial
 |n+1=>⟨h,ZcS h n⟩
theorem Wk.cells(σ:AS)(id:Nat)(b:AY)(els:List (List AV))(hb:σ.box id=some b)(hle:Ob b.els els)(hD:b.pl=true->∀ cs∈els,cs.all Dj=true):Wk σ (σ.Bc (id,{ b with els:=els })):=by
 obtain⟨hlen,hat⟩:=Zbr hle;refine⟨rfl,Nat.le_refl _,fun m a w hs=>?_⟩;obtain⟨b2,hb2⟩:∃ b2:AY,b2 ={ b with els:=els }:=⟨_,rfl⟩;rw[<- hb2];have k1:b2.T=b.T/\b2.sz=b.sz/\b2.st=b.st/\b2.els.length=b.els.length/\b2.pl=b.pl/\b2.els=els:=by rw[hb2];exact⟨rfl,rfl,rfl,hlen.symm,rfl,rfl⟩
 obtain⟨m2,hm2⟩:∃ m2:Mem,m2 ={ m with bx:=fun i=>if i=id then some b2 else m.bx i }:=⟨_,rfl⟩;have Lc:m2.bx=fun i=>if i=id then some b2 else m.bx i:=by rw[hm2]
 have E9:m2.loc=m.loc:=by rw[hm2]
 have GH:m2.w0=m.w0:=by rw[hm2]
 have dW:m2.F=m.F:=by rw[hm2]
 have hback:∀ k x,m2.bx k=some x->∃ y,m.bx k=some y/\y.st=x.st/\x.sz=y.sz/\x.els.length=y.els.length:=fun k x hx=>by
  rw[Lc]at hx;dsimp only at hx;split at hx
  .rename_i e;subst e;obtain rfl:=Z7 hx;exact⟨b,by rw[hs.bx];exact hb,k1.2.2.1.symm,k1.2.1,k1.2.2.2.1⟩
  .exact⟨x,hx,rfl,rfl,rfl⟩
 have hM:∀ g,m2.M g->m.M g:=fun g ⟨k,x,q1,q2⟩=>by
  obtain⟨y,q3,_⟩:=hback k x q1;exact⟨k,y,q3,by rw[E9]at q2;exact q2⟩
 have ev:Cj (fun s=>s<σ.clk) m w m2 w:=⟨GH,dW,fun g hg=>⟨rfl,hg.1,fun hm=>hg.2 (hM g hm)⟩,fun k x hx _=>by
  obtain⟨y,q1,q2,q3,q4⟩:=hback k x hx;exact⟨y,q1,q2,by rw[E9],q3,q4⟩⟩
 refine⟨m2,⟨?_,by rw[GH];exact hs.below,hs.defers,hs.size,fun t=>ev.Ht (hs.slots t) (hs.ok t),hs.ok,fun k x hx=>?_,fun i' j' bi bj g hi' hj' gi gj=>?_⟩,GH,dW,ev⟩
 .rw[Lc,hs.bx];rfl
 .have hx2:(if k=id then some b2 else σ.box k)=some x:=hx;split at hx2
  .rename_i e;subst e;obtain rfl:=Z7 hx2;obtain⟨⟨css,ho,hr⟩,q2,q3⟩:=hs.boxes k b hb;refine⟨⟨css,by rw[GH,E9,k1.1,k1.2.1,k1.2.2.2.1];exact ho,?_⟩,by rw[k1.2.2.1];exact q2,?_⟩
   .rw[k1.2.1,k1.2.2.2.2.1,k1.2.2.2.2.2];intro i cs ds a1 a2;obtain⟨d0,e1,e2⟩:=hat i ds a2;obtain⟨r1,r2,r3⟩:=hr i cs d0 a1 e1;obtain⟨l1,l2⟩:=eU e2;refine⟨by rw[<- l1];exact r1,⟨by rw[r2.len,l1],fun j v d u1 u2=>?_⟩,fun hp j v d u1 u2=>?_⟩
    .obtain⟨c,hc,hcd⟩:=l2 j d u2;exact eT (ev.DI (r2.at_ j v c u1 hc) (q3 d0 (Z6 e1) c (Z6 hc))) hcd
    .obtain⟨c,hc,hcd⟩:=l2 j d u2;exact ZoE (ev.Dc (r3 hp j v c u1 hc)) hcd (Zu.1 (hD hp ds (Z6 a2)) d (Z6 u2))
   .rw[k1.2.2.2.2.2];intro ds hds d hd;obtain⟨i,hi,rfl⟩:=ZM hds;obtain⟨d0,e1,e2⟩:=hat i _ (Z4 hi);obtain⟨j,hj,rfl⟩:=ZM hd;obtain⟨c,hc,hcd⟩:=(eU e2).2 j _ (Z4 hj);exact Zp6 hcd (q3 d0 (Z6 e1) c (Z6 hc))
  .obtain⟨⟨css,ho,hr⟩,q2,q3⟩:=hs.boxes k x hx2;refine⟨⟨css,by rw[GH,E9];exact ho,fun i' cs' ds a1 a2=>?_⟩,q2,q3⟩;obtain⟨r1,r2,r3⟩:=hr i' cs' ds a1 a2;exact⟨r1,ev.EE r2 (q3 ds (Z6 a2)),fun hp j v d x y=>ev.Dc (r3 hp j v d x y)⟩
 .have f1:∃ y,σ.box i'=some y:=by
   have hi2:(if i'=id then some b2 else σ.box i')=some bi:=hi';split at hi2
   .rename_i e;subst e;exact⟨b,hb⟩
   .exact⟨bi,hi2⟩
  have f2:∃ y,σ.box j'=some y:=by
   have hj2:(if j'=id then some b2 else σ.box j')=some bj:=hj';split at hj2
   .rename_i e;subst e;exact⟨b,hb⟩
   .exact⟨bj,hj2⟩
  obtain⟨y1,f1⟩:=f1;obtain⟨y2,f2⟩:=f2;rw[E9]at gi gj;exact hs.inj i' j' y1 y2 g f1 f2 gi gj
theorem ZnH(l:List Pr):∀ cs∈pE l,cs.all Dj=true:=fun cs h=>by obtain⟨p,_,rfl⟩:=ZB.1 h;rfl
theorem Zpa(l:List Pt):∀ cs∈EN l,cs.all Dj=true:=fun cs h=>by obtain⟨p,_,rfl⟩:=ZB.1 h;rfl
def Lu:Cd:=⟨0,zR,[]⟩
theorem VG:Dg Lu=[.int .i64 0,.bool false,.sl false 3 1 [],.sl false 3 1 [],.sl false 233 10 []]:=by unfold Dg Lu zR;simp[-getElem?_pos,-exists_and_left,-exists_and_right,Yd]
theorem Zoh:Mb Lu:=⟨.zero,by simp[Lu]⟩
def Zoc(r:AV):Prop:=∃ (c:Cd) (Ca:List Lk) (ok:Bool),r=.tup [.agg (Dg c),.sl false 186 11 (kE Ca),.bool ok]/\Mb c/\(∀ l∈Ca,D6 l)/\Ca.length<=100/\c.ps.length<=1000/\(ok=true->VC c/\∀ l∈Ca,QU l=true)
theorem pN:Zoc (.tup [.agg (Dg Lu),.sl false 186 11 [],.bool false]):=⟨Lu,[],false,rfl,Zoh,by simp[Lu]⟩
theorem ZiA(ps:List Pr)(nd:Int)(dx dy:Rt):Ob (pE ps++[[.int .i64 nd,.bool false,.nil,.nil,.bool (decide (dx.num<0)),.sl false 3 1 (iE (Zz dx.num.natAbs)),.sl false 3 1 (iE (Zz dx.den)),.bool (decide (dy.num<0)),.sl false 3 1 (iE (Zz dy.num.natAbs)),.sl false 3 1 (iE (Zz dy.den))]]) (pE (ps++[⟨nd,zR,dx,dy⟩])):=by
 rw[<- ZiX];refine ZcT (Za7 _) ⟨?_,trivial⟩;simp[-getElem?_pos,-exists_and_left,-exists_and_right,Vq,Vr,Cv,zR,Yd,Vs,TR]
theorem Qp{α:Type}{P:α->Prop}{l:List α}{x:α}(h:∀ y∈l,P y)(hx:P x):∀ y∈l++[x],P y:=fun y hy=>by
 rcases Z9.1 hy with h'|h'
 .exact h y h'
 .rw[List.mem_singleton.1 h'];exact hx
theorem Z2N(ls:List Lk)(hl:ls.length<=100)(hg:∀ l∈ls,D6 l)(v:Int):AF prog 185 [.sl true 186 11 (kE ls),.int .i64 v] Zoc:=by
 have hz:=Yf 0 o_ o_;have gz:Bq (Dw 0):=YS AO;generalize Dw 0=z at *
 by_cases h1:v<1
 .refine BI func185 ntmps185 results185 ?_;simp[-getElem?_pos,-exists_and_left,-exists_and_right,h1];refine Zr ?_ rfl pN;simp[-getElem?_pos,-exists_and_left,-exists_and_right,VG]
 by_cases h2:10<=v
 .refine BI func185 ntmps185 results185 ?_;simp[-getElem?_pos,-exists_and_left,-exists_and_right,h1,h2];refine Zr ?_ rfl pN;simp[-getElem?_pos,-exists_and_left,-exists_and_right,VG]
 refine BI func185 ntmps185 results185 ?_;simp[-getElem?_pos,-exists_and_left,-exists_and_right,h1,h2];refine Ah [] hz ?_;simp[-getElem?_pos,-exists_and_left,-exists_and_right,dQ];refine ZF (fun σ=>∃ (k st Oc s7:Nat) (ps:List Pr) (ws:List Rt) (tot:Rt),k<=ls.length/\ps.length<=k/\ws.length=ps.length/\(∀ p∈ps,oU p)/\(∀ w∈ws,Bq w)/\Bq tot/\σ.env 1=.int .i64 v/\σ.env 4=.ptr 4 0 0 0/\σ.box 4=some ⟨161,5,0,[[.int .i64 0,.bool false,.nil,.nil,.nil]],false⟩/\σ.env 7=.ptr 7 s7 0 0/\σ.box 7=some ⟨161,5,s7,[[.int .i64 v,.bool (decide (tot.num<0)),.sl false 3 1 (iE (Zz tot.num.natAbs)),.sl false 3 1 (iE (Zz tot.den)),.vw 51 st]],false⟩/\σ.box 51=some ⟨233,10,st,pE ps,true⟩/\σ.env 8=.vw 28 Oc/\σ.box 28=some ⟨47,3,Oc,rE ws,true⟩/\σ.env 29=.sl true 186 11 (kE ls)/\σ.env 30=.int .i64 ls.length/\σ.env 31=.int .i64 k) (fun σ=>101-BU (σ.env 31)) (nI _ 7 0 4 51 233 10 AO (by simp;intro b cs hb hc;subst hb;simp at hc;subst hc;simp)) ?_ ?_
 .exact⟨0,_,_,_,[],[],z,Zs _,s_,s_,s_,s_,gz,s_,s_,s_,by simp;rfl,by simp;rfl,s_,by simp;rfl,s_⟩
 .rintro σ ⟨k,st,Oc,s7,ps,ws,tot,hk,hpl,hwl,gp,gw,gt,e1,e4,b4,e7,b7,F3,e8,EO,e29,e30,e31⟩;by_cases ga:k<ls.length
  .obtain⟨x,hx⟩:∃ x,ls[k]? = some x:=⟨_,Z4 ga⟩;have hx2:=Pm hx;have gx:=hg x (Z6 hx);have n1:=Z19 x.dx gx.2.1;have n2:=Z19 x.dy gx.2.2;have n3:=Yy tot x.w gt gx.1;have g1:=Z86 gx.2.1;have g2:=Z86 gx.2.2;have g3:=Q2 tot x.w;generalize Oa x.dx=nx at *
   generalize Oa x.dy=ny at *
   generalize Xc tot x.w=t2 at *
   have lp:(pE ps).length=ps.length:=ZqI ps;have lw:(rE ws).length=ws.length:=Zqx ws;have hz0:iE (Zz 0)=[]:=by rw[Yd];rfl
   by_cases hA:x.a=v
   .simp[-getElem?_pos,-exists_and_left,-exists_and_right,e1,e4,b4,e7,b7,F3,e8,EO,e29,e30,e31,ga,hx2,Bd,hA];refine Ah [] n1 ?_;simp[-getElem?_pos,-exists_and_left,-exists_and_right,e1,e4,b4,e7,b7,F3,e8,EO,e29,e30,e31,ga,hx2,dQ,hA];refine Ah [] n2 ?_;simp[-getElem?_pos,-exists_and_left,-exists_and_right,e1,e4,b4,e7,b7,F3,e8,EO,e29,e30,e31,ga,hx2,dQ,hA]
    ((repeat' with_reducible apply And.intro)<;> try exact Ye);refine Ah [] n3 ?_;simp[-getElem?_pos,-exists_and_left,-exists_and_right,e1,e4,b4,e7,b7,F3,e8,EO,e29,e30,e31,ga,hx2,dQ,hA]
    ((repeat' with_reducible apply And.intro)<;> try exact Ye);refine BD (Wk.cells _ 51 _ (pE (ps++[⟨x.b,zR,nx,ny⟩])) (by simp;rfl) (ZiA ps _ _ _) (fun _=>ZnH _)) ⟨k+1,_,_,s7,ps++[⟨x.b,zR,nx,ny⟩],ws++[x.w],t2,o_,AR,by simp[hwl],Qp gp ⟨.zero,g1,g2⟩,Qp gw gx.1,g3,by simp[e1],by simp[e4],by simp[b4],by simp[e7],by simp[b7];rfl,s_,by simp;rfl,by simp[<- ZiP,dQ,e29,e30]⟩ (by simp[e31];omega)
   .by_cases hB:x.b=v
    .simp[-getElem?_pos,-exists_and_left,-exists_and_right,e1,e4,b4,e7,b7,F3,e8,EO,e29,e30,e31,ga,hx2,Bd,hA,hB]
     ((repeat' with_reducible apply And.intro)<;> try exact Ye);refine Ah [] n3 ?_;simp[-getElem?_pos,-exists_and_left,-exists_and_right,e1,e4,b4,e7,b7,F3,e8,EO,e29,e30,e31,ga,hx2,dQ,hA,hB]
     ((repeat' with_reducible apply And.intro)<;> try exact Ye);refine BD (Wk.cells _ 51 _ (pE (ps++[⟨x.a,zR,x.dx,x.dy⟩])) (by simp;rfl) (ZiA ps _ _ _) (fun _=>ZnH _)) ⟨k+1,_,_,s7,ps++[⟨x.a,zR,x.dx,x.dy⟩],ws++[x.w],t2,o_,AR,by simp[hwl],Qp gp ⟨.zero,gx.2.1,gx.2.2⟩,Qp gw gx.1,g3,by simp[e1],by simp[e4],by simp[b4],by simp[e7],by simp[b7];rfl,s_,by simp;rfl,by simp[<- ZiP,dQ,e29,e30]⟩ (by simp[e31];omega)
    .simp[-getElem?_pos,-exists_and_left,-exists_and_right,e1,e4,b4,e7,b7,F3,e8,EO,e29,e30,e31,ga,hx2,Bd,hA,hB]
     ((repeat' with_reducible apply And.intro)<;> try exact Ye);refine BD (AZ _) ⟨k+1,st,Oc,s7,ps,ws,tot,o_,o_,hwl,gp,gw,gt,by simp[e1,e4,b4,e7,b7,F3,e8,EO,e29,e30]⟩ (by simp[e31];omega)
  .have hps:ps.length<=100:=by omega
   simp[-getElem?_pos,-exists_and_left,-exists_and_right,e1,e4,b4,e7,b7,F3,e8,EO,e29,e30,e31,ga];refine ZF (fun σ=>∃ (k:Nat) (qs:List Pr),k<=ps.length/\qs.length=ps.length/\(∀ p∈qs,oU p)/\σ.env 4=.ptr 4 0 0 0/\σ.box 4=some ⟨161,5,0,[[.int .i64 0,.bool false,.nil,.nil,.nil]],false⟩/\σ.env 7=.ptr 7 s7 0 0/\σ.box 7=some ⟨161,5,s7,[[.int .i64 v,.bool (decide (tot.num<0)),.sl false 3 1 (iE (Zz tot.num.natAbs)),.sl false 3 1 (iE (Zz tot.den)),.vw 51 st]],false⟩/\σ.box 51=some ⟨233,10,st,pE qs,true⟩/\σ.env 8=.vw 28 Oc/\σ.box 28=some ⟨47,3,Oc,rE ws,true⟩/\σ.env 83=.int .i64 ps.length/\σ.env 84=.int .i64 k) (fun σ=>101-BU (σ.env 84)) (AZ _) ?_ ?_
   .exact⟨0,ps,o_,rfl,gp,by simp[e4,b4,e7,b7,F3,e8,EO]⟩
   clear e1 e4 b4 e7 b7 F3 e8 EO e29 e30 e31 ga hk gp
   .rintro σ2 ⟨k,qs,hk,LH,gp,e4,b4,e7,b7,F3,e8,EO,Ua,Ub⟩;by_cases ga:k<ps.length
    .obtain⟨x,hx⟩:∃ x,qs[k]? = some x:=⟨_,Z4 o_⟩;obtain⟨y,hy⟩:∃ y,ws[k]? = some y:=⟨_,Z4 o_⟩;have hx2:=Po hx;have hy2:=ZiQ hy;have gx:=gp x (Z6 hx);have gy:=gw y (Z6 hy);have n1:=Xs y tot gy gt;have g1:=JI y tot;generalize FF y tot=sh at *
     have hkq:k<qs.length:=by omega
     have NL:k<ws.length:=by omega
     obtain⟨X,hX⟩:∃ X:Pr,X=⟨x.nd,sh,x.dx,x.dy⟩:=⟨_,rfl⟩;have hst:(pE qs).set k (Cv X)=pE (qs.set k X):=by simp[pE,List.map_set]
     have gX:oU X:=by rw[hX];exact⟨g1,gx.2⟩
     simp[-getElem?_pos,-exists_and_left,-exists_and_right,e4,b4,e7,b7,F3,e8,EO,Ua,Ub,ga,hx2,hy2,hkq,NL,Cv,dQ];refine Ah [] n1 ?_;simp[-getElem?_pos,-exists_and_left,-exists_and_right,e4,b4,e7,b7,F3,e8,EO,Ua,Ub,ga,hx2,hy2,hkq,NL,Cv,dQ]
     ((repeat' with_reducible apply And.intro)<;> try exact Ye);refine BD (AZ _) ⟨k+1,qs.set k X,o_,by simp[LH],fun p hp=>?_,by simp[e4],by simp[b4],by simp[e7],by simp[b7],?_,by simp[e8,EO,Ua]⟩ (by simp[Ub];omega)
     .rcases List.mem_or_eq_of_mem_set hp with h|h
      .exact gp p h
      .rw[h];exact gX
     .simp[-getElem?_pos,-exists_and_left,-exists_and_right];rw[<- hst,hX];rfl
    .obtain rfl:k=ps.length:=by omega
     have n1:=Qk ⟨v,tot,qs⟩ (by show qs.length<=_;omega) ⟨gt,gp⟩;dsimp only at n1;simp[-getElem?_pos,-exists_and_left,-exists_and_right,e4,b4,e7,b7,F3,e8,EO,Ua,Ub];refine Zv [] n1 ?_;rintro _ ⟨b,rfl,hb⟩;cases b
     .simp[-getElem?_pos,-exists_and_left,-exists_and_right,e4,b4,e7,b7,F3,e8,EO,Ua,Ub];refine Zr ?_ rfl pN;simp[-getElem?_pos,-exists_and_left,-exists_and_right,VG,e4]
     have hv:=hb rfl;have Z6J:qs.length<=10:=hv.len;have En:∀ p∈qs,0<=p.nd/\p.nd<=9:=hv.pn;simp[-getElem?_pos,-exists_and_left,-exists_and_right,e4,b4,e7,b7,F3,e8,EO,Ua,Ub];refine ZF (fun σ=>∃ (k Ps:Nat) (Ca:List Lk),k<=qs.length/\Ca.length<=10*k/\(∀ l∈Ca,D6 l)/\(∀ l∈Ca,QU l=true)/\σ.env 4=.ptr 4 0 0 0/\σ.box 4=some ⟨161,5,0,[[.int .i64 0,.bool false,.nil,.nil,.nil]],false⟩/\σ.env 7=.ptr 7 s7 0 0/\σ.box 7=some ⟨161,5,s7,[[.int .i64 v,.bool (decide (tot.num<0)),.sl false 3 1 (iE (Zz tot.num.natAbs)),.sl false 3 1 (iE (Zz tot.den)),.vw 51 st]],false⟩/\σ.box 51=some ⟨233,10,st,pE qs,true⟩/\σ.env 8=.vw 28 Oc/\σ.box 28=some ⟨47,3,Oc,rE ws,true⟩/\σ.env 12=.vw 104 Ps/\σ.box 104=some ⟨186,11,Ps,kE Ca,true⟩/\σ.env 106=.vw 51 st/\σ.env 107=.int .i64 qs.length/\σ.env 108=.int .i64 k) (fun σ=>11-BU (σ.env 108)) (AZ _) ?_ ?_
     .exact⟨0,_,[],o_,s_,s_,s_,by simp[e4],by simp[b4],by simp[e7],by simp[b7],by simp[F3],by simp[e8],by simp[EO],by simp;rfl,by simp[kE]⟩
     clear e4 b4 e7 b7 F3 e8 EO Ua Ub ga hk n1
     .rintro σ3 ⟨k,Ps,Ca,hk,PU,gm,vm,e4,b4,e7,b7,F3,e8,EO,e12,Nl,Nn,Np,e108⟩;by_cases ga:k<qs.length
      .obtain⟨x,hx⟩:∃ x,qs[k]? = some x:=⟨_,Z4 ga⟩;obtain⟨y,hy⟩:∃ y,ws[k]? = some y:=⟨_,Z4 o_⟩;have hx2:=Po hx;have hy2:=ZiQ hy;have gx:=gp x (Z6 hx);have gy:=gw y (Z6 hy);have NL:k<ws.length:=by omega
       simp[-getElem?_pos,-exists_and_left,-exists_and_right,e4,b4,e7,b7,F3,e8,EO,e12,Nl,Nn,Np,e108,ga,hx2,Cv]
       ((repeat' with_reducible apply And.intro)<;> try exact Ye);refine ZF (fun σ=>∃ (j Ps pO:Nat) (Ca:List Lk),j<=qs.length/\Ca.length<=10*k+j/\(∀ l∈Ca,D6 l)/\(∀ l∈Ca,QU l=true)/\σ.env 4=.ptr 4 0 0 0/\σ.box 4=some ⟨161,5,0,[[.int .i64 0,.bool false,.nil,.nil,.nil]],false⟩/\σ.env 7=.ptr 7 s7 0 0/\σ.box 7=some ⟨161,5,s7,[[.int .i64 v,.bool (decide (tot.num<0)),.sl false 3 1 (iE (Zz tot.num.natAbs)),.sl false 3 1 (iE (Zz tot.den)),.vw 51 st]],false⟩/\σ.box 51=some ⟨233,10,st,pE qs,true⟩/\σ.env 8=.vw 28 Oc/\σ.box 28=some ⟨47,3,Oc,rE ws,true⟩/\σ.env 12=.vw 104 Ps/\σ.box 104=some ⟨186,11,Ps,kE Ca,true⟩/\σ.env 106=.vw 51 st/\σ.env 107=.int .i64 qs.length/\σ.env 108=.int .i64 k/\σ.env 13=.int .i64 k/\σ.env 14=.ptr 14 pO 0 0/\σ.box 14=some ⟨233,10,pO,[Cv x],false⟩/\σ.env 15=.int .i64 j) (fun σ=>11-BU (σ.env 15)) (AZ _) ?_ ?_
       .exact⟨k+1,Ps,_,Ca,o_,o_,gm,vm,by simp[e4],by simp[b4],by simp[e7],by simp[b7],by simp[F3],by simp[e8],by simp[EO],by simp[e12],by simp[Nl],by simp[Nn],by simp[Np],by simp[e108],s_,by simp;rfl,by simp[Cv]⟩
       clear e4 b4 e7 b7 F3 e8 EO e12 Nl Nn Np e108 PU gm vm Ca
       .rintro σ4 ⟨j,Ps,pO,Ca,hj,PU,gm,vm,E⟩;have b14:=E.2.2.2.2.2.2.2.2.2.2.2.2.2.2.1;by_cases gb:j<qs.length
        .obtain⟨x2,hx'⟩:∃ x2,qs[j]? = some x2:=⟨_,Z4 gb⟩;obtain⟨y2,hy'⟩:∃ y2,ws[j]? = some y2:=⟨_,Z4 o_⟩;have hx3:=Po hx';have hy3:=ZiQ hy';have pP:=gp x2 (Z6 hx');have gy2:=gw y2 (Z6 hy');have fZ:j<ws.length:=by omega
         have n1:=YL y y2 gy gy2;have n2:=Xs (XX y y2) tot (QA _ _) gt;have n3:=Jv x.dx x2.dx gx.2.1 pP.2.1;have n4:=Jv x.dy x2.dy gx.2.2 pP.2.2;obtain⟨L,hL⟩:∃ L:Lk,L=⟨x.nd,x2.nd,FF (XX y y2) tot,GI x.dx x2.dx,GI x.dy x2.dy⟩:=⟨_,rfl⟩;have gL:D6 L:=by rw[hL];exact⟨JI _ _,oH _ _,oH _ _⟩
         have n5:=Zqb L gL;have dL:Bd L=[.int .i64 x.nd,.int .i64 x2.nd]++(dQ (FF (XX y y2) tot)++(dQ (GI x.dx x2.dx)++dQ (GI x.dy x2.dy))):=by rw[hL];rfl
         simp only[dQ,List.cons_append,List.nil_append]at dL;rw[dL]at n5;have hlm:(kE Ca).length<=120:=by simp;omega
         generalize XX y y2=A1 at *
         generalize FF A1 tot=A2 at *
         generalize GI x.dx x2.dx=A3 at *
         generalize GI x.dy x2.dy=A4 at *
         have hbx:Cv x=Cv x:=rfl;simp only[Cv]at b14;simp[-getElem?_pos,-exists_and_left,-exists_and_right,E,gb,hx3,hy2,hy3,NL,fZ,Cv,dQ];refine Ah [] n1 ?_;simp[-getElem?_pos,-exists_and_left,-exists_and_right,E,gb,hx3,hy2,hy3,NL,fZ,Cv,dQ];refine Ah [] n2 ?_;simp[-getElem?_pos,-exists_and_left,-exists_and_right,E,gb,hx3,hy2,hy3,NL,fZ,Cv,dQ]
         ((repeat' with_reducible apply And.intro)<;> try exact Ye);refine Ah [] n3 ?_;simp[-getElem?_pos,-exists_and_left,-exists_and_right,E,gb,hx3,hy2,hy3,NL,fZ,Cv,dQ];refine Ah [] n4 ?_;simp[-getElem?_pos,-exists_and_left,-exists_and_right,E,gb,hx3,hy2,hy3,NL,fZ,Cv,dQ];refine Ah [] n5 ?_;cases hvl:QU L
         .simp[-getElem?_pos,-exists_and_left,-exists_and_right,E,gb];refine Zr ?_ rfl pN;simp[-getElem?_pos,-exists_and_left,-exists_and_right,VG,E]
         .simp[-getElem?_pos,-exists_and_left,-exists_and_right,E,gb]
          ((repeat' with_reducible apply And.intro)<;> try exact Ye);refine BD (AZ _) ⟨j+1,_,pO,Ca++[L],o_,AR,Qp gm gL,Qp vm hvl,by simp[E],by simp[E],by simp[E],by simp[E],by simp[E],by simp[E],by simp[E],by simp;rfl,?_,by simp[E,Cv]⟩ (by simp[E];omega);simp[-getElem?_pos,-exists_and_left,-exists_and_right,<- VA,dL]
        .simp[-getElem?_pos,-exists_and_left,-exists_and_right,E,gb]
         ((repeat' with_reducible apply And.intro)<;> try exact Ye);refine BD (AZ _) ⟨k+1,Ps,Ca,o_,o_,gm,vm,by simp[E]⟩ (by simp[E];omega)
      .simp[-getElem?_pos,-exists_and_left,-exists_and_right,e4,b4,e7,b7,F3,e8,EO,e12,Nl,Nn,Np,e108,ga];refine Zr (r:=.tup [.agg (Dg ⟨v,tot,qs⟩),.sl false 186 11 (kE Ca),.bool true]) ?_ rfl ⟨⟨v,tot,qs⟩,Ca,true,rfl,⟨gt,gp⟩,gm,o_,by show qs.length<=_;omega,fun _=>⟨hv,vm⟩⟩;simp[-getElem?_pos,-exists_and_left,-exists_and_right,e4,b4,e7,b7,F3,e8,EO,e12,Nl,Nn,Np,e108,ga,Dg];exact⟨none,s_⟩
def Zo8(r:AV):Prop:=∃ (c:Cd) (m:List Lk) (e:Rt) (ok:Bool),r=.tup [.agg (Dg c),.sl false 186 11 (kE m),.agg (dQ e),.bool ok]/\Mb c/\Dn m/\Bq e/\c.ps.length<=1000/\(ok=true->VC c)
theorem Zdy:Zo8 (.tup [.agg (Dg Lu),.sl false 186 11 [],.agg (dQ zR),.bool false]):=⟨Lu,[],zR,false,rfl,Zoh,.nil,.zero,by simp[Lu],s_⟩
theorem Z5D(ls:List Lk)(hs:Dn ls)(v:Int):AF prog 154 [.sl true 186 11 (kE ls),.int .i64 v] Zo8:=by
 have n1:=Z2N ls hs.len hs.good v;have n2:=Z4s ls v (by have:=hs.len;omega);have hout:∀ l∈GR ls v,l∈ls:=fun l h=>(List.mem_filter.1 h).1
 have hol:(GR ls v).length<=100:=Nat.le_trans (List.length_filter_le _ _) hs.len;generalize GR ls v=out at *
 refine BI func154 ntmps154 results154 ?_;simp;refine Zv [] n1 ?_;rintro _ ⟨c,Ca,ok,rfl,gc,gm,ml,cl,hok⟩;cases ok
 .simp[Dg];refine Zr ?_ rfl Zdy;simp[VG,Jb]
 obtain⟨vc,vm⟩:=hok rfl
 have gB:∀ l∈out++Ca,D6 l:=fun l h=>by
  rcases Z9.1 h with h|h
  .exact hs.good l (hout l h)
  .exact gm l h
 have Z1w:∀ l∈out++Ca,QU l=true:=fun l h=>by
  rcases Z9.1 h with h|h
  .exact hs.F7 l (hout l h)
  .exact vm l h
 have n3:=Jg (out++Ca) AR gB;have hap:kE out++kE Ca=kE (out++Ca):=by simp[kE]
 cases hj:Ph (out++Ca)with
 |none =>
  rw[hj]at n3;simp only[GM,Jb]at n3;simp[Dg];refine Ah [] n2 ?_;simp[hap]
  ((repeat' with_reducible apply And.intro)<;> try exact Ye);refine Ah [] n3 ?_;simp;refine Zr ?_ rfl Zdy;simp[VG,Jb]
 |some p =>
  obtain⟨m,e⟩:=p;rw[hj]at n3;simp only[GM]at n3;obtain⟨sm,ge,oe⟩:=fT gB Z1w hj;simp[Dg];refine Ah [] n2 ?_;simp[hap]
  ((repeat' with_reducible apply And.intro)<;> try exact Ye);refine Ah [] n3 ?_;simp[dQ]
  ((repeat' with_reducible apply And.intro)<;> try exact Ye);refine Zr (r:=.tup [.agg (Dg c),.sl false 186 11 (kE m),.agg (dQ e),.bool true]) ?_ rfl ⟨c,m,e,true,rfl,gc,sm,ge,cl,fun _=>vc⟩;simp[Dg,dQ]
end Go.Proofs.YtcnbphnnfmphlaaGreatDoor
