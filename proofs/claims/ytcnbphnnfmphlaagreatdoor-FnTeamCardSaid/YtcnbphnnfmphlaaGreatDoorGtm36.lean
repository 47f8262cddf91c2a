/- Texts of this proof. -/
import Derived.Test.YtcnbphnnfmphlaaGreatDoorGtm34
namespace Go.Proofs.YtcnbphnnfmphlaaGreatDoor
open Bool renaming exists_bool → Z3
open _root_.List renaming getElem?_eq_getElem → Z4,mem_of_getElem? → Z6
open Nat renaming zero_le → Zs
open Go.Proofs.Tryz
open Go.RowKit
set_option linter.unusedVariables false
set_option linter.unusedSimpArgs false
set_option maxHeartbeats 4000000
set_option maxRecDepth 100000
theorem Z9y(ls:List Lk)(hs:Dn ls)(o:List Int)(ho:o.length<=100000):AF prog 116 [.sl true 186 11 (kE ls),.sl true 3 1 (iE o)] (fun r=>∃ b,r=.bool b/\(b=true->o.length<=9)):=by
 have n0:=ZjQ ls hs;have n2:=Z31 ls (by have:=hs.len;omega);have nl:=Z8e ls;generalize TY ls=nodes at *
 refine BI func116 ntmps116 results116 ?_;simp -implicitDefEqProofs [-getElem?_pos,-exists_and_left,-exists_and_right,-Z3];refine Ah [] n0 ?_;simp -implicitDefEqProofs [-getElem?_pos,-exists_and_left,-exists_and_right,-Z3];refine Ah [] n2 ?_;simp -implicitDefEqProofs [-getElem?_pos,-exists_and_left,-exists_and_right,-Z3];refine ZF (fun σ=>∃ k:Nat,k<=nodes.length/\σ.env 1=.sl true 3 1 (iE o)/\σ.env 5=.sl false 3 1 (iE nodes)/\σ.env 13=.sl false 3 1 (iE nodes)/\σ.env 14=.int .i64 nodes.length/\σ.env 15=.int .i64 k) (fun σ=>10-BU (σ.env 15)) (Wk.DT _ [12]) ?_ ?_
 .exact⟨0,o_,s_⟩
 .rintro σ ⟨k,hk,E⟩;by_cases ga:k<nodes.length
  .obtain⟨x,hx⟩:∃ x,nodes[k]? = some x:=⟨_,Z4 ga⟩;have hx2:=Yu hx;have n1:=Q5 o x o_;generalize decide (x∈o)=b at *
   simp -implicitDefEqProofs [-getElem?_pos,-exists_and_left,-exists_and_right,-Z3,E,ga,hx2];refine Ah [] n1 ?_;cases b
   .simp -implicitDefEqProofs [-getElem?_pos,-exists_and_left,-exists_and_right,-Z3,E,ga,hx2];refine Zr (r:=.bool false) ?_ rfl ⟨_,rfl,s_⟩;simp -implicitDefEqProofs [-getElem?_pos,-exists_and_left,-exists_and_right,-Z3]
   .simp -implicitDefEqProofs [-getElem?_pos,-exists_and_left,-exists_and_right,-Z3,E,ga,hx2]
    ((repeat' with_reducible apply And.intro)<;> try exact Ye);refine BD (AZ _) ⟨k+1,o_,by simp[E]⟩ (by simp[E];omega)
  .simp -implicitDefEqProofs [-getElem?_pos,-exists_and_left,-exists_and_right,-Z3,E,ga];refine Zr (r:=.bool (decide ((o.length:Int)=nodes.length))) ?_ rfl ⟨_,rfl,fun h=>?_⟩
   .simp -implicitDefEqProofs [-getElem?_pos,-exists_and_left,-exists_and_right,-Z3,E,ga]
   .have:=of_decide_eq_true h;omega
structure RO(n:Tn):Prop where
 og:∀ l∈n.own,D6 l
 ov:∀ l∈n.own,QU l=true
 ol:n.own.length<=500
 cg:Mb n.cd
 cl:n.cd.ps.length<=1000
 ms:Dn n.ms
 en:Bq n.en
theorem RO.g{n:Tn}(h:RO n):TnG n:=⟨h.og,by have:=h.ol;omega,h.cg,h.cl,h.ms.good,by have:=h.ms.len;omega,h.en⟩
def Pv:Tn:=⟨0,0,[],Lu,[],zR⟩
theorem Zs4:RO Pv:=⟨by simp[Pv],by simp[Pv],by simp[Pv],Zoh,by simp[Pv,Lu],.nil,.zero⟩
theorem Zpz:Fe Pv=[.int .i64 0,.int .i64 0,.sl false 186 11 [],.int .i64 0,.bool false,.sl false 3 1 [],.sl false 3 1 [],.sl false 233 10 [],.sl false 186 11 [],.bool false,.sl false 3 1 [],.sl false 3 1 []]:=by unfold Fe Pv Lu zR;simp[-getElem?_pos,-exists_and_left,-exists_and_right,-Z3,Yd,kE]
def Zod(r:AV):Prop:=∃ (n:Tn) (ok:Bool),r=.tup [.agg (Fe n),.bool ok]/\RO n
theorem Z91:Zod (.tup [.agg (Fe Pv),.bool false]):=⟨Pv,false,rfl,Zs4⟩
theorem Z6N(t:List Tn)(ht:t.length<=20)(gt:∀ n∈t,RO n)(o:List Int)(ho:o.length<=100)(v:Int)(own:List Lk)(ol:own.length<=500)(og:∀ l∈own,D6 l)(ov:∀ l∈own,QU l=true):
  AF prog 117 [.agg [.sl true 163 12 (tE t)],.sl true 3 1 (iE o),.int .i64 v,.sl false 186 11 (kE own)] Zod:=by
 refine BI func117 ntmps117 results117 ?_;simp -implicitDefEqProofs [-getElem?_pos,-exists_and_left,-exists_and_right,-Z3]
 ((repeat' with_reducible apply And.intro)<;> try exact Ye);refine ZF (fun σ=>∃ (k st:Nat) (fr:List Lk),k<=t.length/\fr.length<=500+100*k/\(∀ l∈fr,D6 l)/\(∀ l∈fr,QU l=true)/\σ.env 1=.sl true 3 1 (iE o)/\σ.env 2=.int .i64 v/\σ.env 3=.sl false 186 11 (kE own)/\σ.env 8=.ptr 8 1 0 0/\σ.box 8=some ⟨163,12,1,[[.int .i64 0,.int .i64 0,.nil,.int .i64 0,.bool false,.nil,.nil,.nil,.nil,.bool false,.nil,.nil]],false⟩/\σ.env 10=.vw 23 st/\σ.box 23=some ⟨186,11,st,kE fr,true⟩/\σ.env 27=.sl true 163 12 (tE t)/\σ.env 28=.int .i64 t.length/\σ.env 29=.int .i64 k) (fun σ=>21-BU (σ.env 29)) (AZ _) ?_ ?_
 .exact⟨0,_,own,o_,o_,og,ov,s_,s_,s_,s_,s_,by simp;rfl,s_⟩
 .rintro σ ⟨k,st,fr,hk,hfl,gf,vf,e1,e2,e3,e8,b8,e10,Lv,e27,e28,e29⟩;by_cases ga:k<t.length
  .obtain⟨x,hx⟩:∃ x,t[k]? = some x:=⟨_,Z4 ga⟩;have hx2:=oV hx;have gx:=gt x (Z6 hx);have PU:=gx.ms.len;have lf:(kE fr).length=fr.length:=oP fr;have lm:(kE x.ms).length=x.ms.length:=oP _;have hap:kE fr++kE x.ms=kE (fr++x.ms):=by simp[kE]
   by_cases hu:x.up=v
   .simp -implicitDefEqProofs [-getElem?_pos,-exists_and_left,-exists_and_right,-Z3,e1,e2,e3,e8,b8,e10,Lv,e27,e28,e29,ga,hx2,Fe,hu,hap]
    ((repeat' with_reducible apply And.intro)<;> try exact Ye);refine BD (AZ _) ⟨k+1,_,fr++x.ms,o_,AR,fun l h=>?_,fun l h=>?_,by simp[e1],by simp[e2],by simp[e3],by simp[e8],by simp[b8],by simp;rfl,by simp[e27,e28]⟩ (by simp[e29];omega)
    .rcases List.mem_append.1 h with h|h
     .exact gf l h
     .exact gx.ms.good l h
    .rcases List.mem_append.1 h with h|h
     .exact vf l h
     .exact gx.ms.F7 l h
   .simp -implicitDefEqProofs [-getElem?_pos,-exists_and_left,-exists_and_right,-Z3,e1,e2,e3,e8,b8,e10,Lv,e27,e28,e29,ga,hx2,Fe,hu]
    ((repeat' with_reducible apply And.intro)<;> try exact Ye);refine BD (AZ _) ⟨k+1,st,fr,o_,o_,gf,vf,by simp[e1,e2,e3,e8,b8,e10,Lv,e27,e28]⟩ (by simp[e29];omega)
  .have n1:=Jg fr o_ gf;cases hj:Ph fr with
   |none =>
    rw[hj]at n1;simp only[GM,Jb]at n1;simp -implicitDefEqProofs [-getElem?_pos,-exists_and_left,-exists_and_right,-Z3,e1,e2,e3,e8,b8,e10,Lv,e27,e28,e29,ga];refine Ah [] n1 ?_;simp -implicitDefEqProofs [-getElem?_pos,-exists_and_left,-exists_and_right,-Z3,e1,e2,e3,e8,b8,e10,Lv,e27,e28,e29,ga];refine Zr ?_ rfl Z91;simp -implicitDefEqProofs [-getElem?_pos,-exists_and_left,-exists_and_right,-Z3,Zpz,e8]
   |some p =>
    obtain⟨m,e⟩:=p;rw[hj]at n1;simp only[GM]at n1;obtain⟨sm,ge,oe⟩:=fT gf vf hj;have n2:=Z5D m sm v;simp -implicitDefEqProofs [-getElem?_pos,-exists_and_left,-exists_and_right,-Z3,e1,e2,e3,e8,b8,e10,Lv,e27,e28,e29,ga];refine Ah [] n1 ?_;simp -implicitDefEqProofs [-getElem?_pos,-exists_and_left,-exists_and_right,-Z3,e1,e2,e3,e8,b8,e10,Lv,e27,e28,e29,ga,dQ];refine Zv [] n2 ?_;rintro _ ⟨c,m2,f,ok,rfl,gc,sm2,gf2,cl,vc⟩;have n3:=Yy e f ge gf2;have n4:=Yw (Xc e f);have g3:=Q2 e f;generalize Xc e f=s at *
    generalize QC s=os at *
    simp -implicitDefEqProofs [-getElem?_pos,-exists_and_left,-exists_and_right,-Z3,e1,e2,e3,e8,b8,e10,Lv,e27,e28,e29,ga,dQ,Dg];refine Ah [] n3 ?_;cases ok
    .simp -implicitDefEqProofs [-getElem?_pos,-exists_and_left,-exists_and_right,-Z3,e1,e2,e3,e8,b8,e10,Lv,e27,e28,e29,ga,dQ,Dg];refine Zr ?_ rfl Z91;simp -implicitDefEqProofs [-getElem?_pos,-exists_and_left,-exists_and_right,-Z3,Zpz,e8]
    simp -implicitDefEqProofs [-getElem?_pos,-exists_and_left,-exists_and_right,-Z3,e1,e2,e3,e8,b8,e10,Lv,e27,e28,e29,ga,dQ,Dg];refine Ah [] n4 ?_;cases os
    .simp -implicitDefEqProofs [-getElem?_pos,-exists_and_left,-exists_and_right,-Z3,e1,e2,e3,e8,b8,e10,Lv,e27,e28,e29,ga,dQ,Dg];refine Zr ?_ rfl Z91;simp -implicitDefEqProofs [-getElem?_pos,-exists_and_left,-exists_and_right,-Z3,Zpz,e8]
    simp -implicitDefEqProofs [-getElem?_pos,-exists_and_left,-exists_and_right,-Z3,e1,e2,e3,e8,b8,e10,Lv,e27,e28,e29,ga,dQ,Dg];have tB:∀ u,RO ⟨v,u,own,c,m2,s⟩:=fun u=>⟨og,ov,ol,gc,cl,sm2,g3⟩
    refine ZF (fun σ=>∃ k s16 s20:Nat,k<=o.length/\σ.env 1=.sl true 3 1 (iE o)/\σ.env 8=.ptr 8 1 0 0/\σ.box 8=some ⟨163,12,1,[[.int .i64 0,.int .i64 0,.nil,.int .i64 0,.bool false,.nil,.nil,.nil,.nil,.bool false,.nil,.nil]],false⟩/\σ.env 16=.ptr 16 s16 0 0/\σ.box 16=some ⟨161,5,s16,[[.int .i64 c.nd,.bool (decide (c.tot.num<0)),.sl false 3 1 (iE (Zz c.tot.num.natAbs)),.sl false 3 1 (iE (Zz c.tot.den)),.sl false 233 10 (pE c.ps)]],false⟩/\σ.env 20=.ptr 20 s20 0 0/\σ.box 20=some ⟨163,12,s20,[[.int .i64 v,.int .i64 0,.sl false 186 11 (kE own),.int .i64 c.nd,.bool (decide (c.tot.num<0)),.sl false 3 1 (iE (Zz c.tot.num.natAbs)),.sl false 3 1 (iE (Zz c.tot.den)),.sl false 233 10 (pE c.ps),.sl false 186 11 (kE m2),.bool (decide (s.num<0)),.sl false 3 1 (iE (Zz s.num.natAbs)),.sl false 3 1 (iE (Zz s.den))]],false⟩/\σ.env 76=.sl true 3 1 (iE o)/\σ.env 77=.int .i64 o.length/\σ.env 78=.int .i64 k) (fun σ=>101-BU (σ.env 78)) (AZ _) ?_ ?_
    .exact⟨0,_,_,o_,by simp[e1],by simp[e8],by simp[b8],by simp;rfl,s_,by simp;rfl,s_⟩
    clear e1 e2 e3 e8 b8 e10 Lv e27 e28 e29 ga
    .rintro σ2 ⟨k,s16,s20,hk,E⟩;by_cases ga:k<o.length
     .obtain⟨x,hx⟩:∃ x,o[k]? = some x:=⟨_,Z4 ga⟩;have hx2:=Yu hx;have n5:=Z6M c x o_;rw[RN]at n5;simp -implicitDefEqProofs [-getElem?_pos,-exists_and_left,-exists_and_right,-Z3,E,ga,hx2];refine Zv [] n5 ?_;rintro _ ⟨b,rfl⟩;cases b
      .simp -implicitDefEqProofs [-getElem?_pos,-exists_and_left,-exists_and_right,-Z3,E,ga,hx2]
       ((repeat' with_reducible apply And.intro)<;> try exact Ye);refine BD (AZ _) ⟨k+1,s16,s20,o_,by simp[E]⟩ (by simp[E];omega)
      .simp -implicitDefEqProofs [-getElem?_pos,-exists_and_left,-exists_and_right,-Z3,E,ga,hx2];try refine⟨EM BC,?_⟩
       refine Zr (r:=.tup [.agg (Fe ⟨v,x,own,c,m2,s⟩),.bool true]) ?_ rfl ⟨_,true,rfl,tB x⟩;simp -implicitDefEqProofs [-getElem?_pos,-exists_and_left,-exists_and_right,-Z3,E,ga,hx2,Fe]
     .simp -implicitDefEqProofs [-getElem?_pos,-exists_and_left,-exists_and_right,-Z3,E,ga];try refine⟨EM BC,?_⟩
      refine Zr (r:=.tup [.agg (Fe ⟨v,0,own,c,m2,s⟩),.bool true]) ?_ rfl ⟨_,true,rfl,tB 0⟩;simp -implicitDefEqProofs [-getElem?_pos,-exists_and_left,-exists_and_right,-Z3,E,ga,Fe]
def Zl2(r:AV):Prop:=∃ (ts:List Tn) (ok:Bool),r=.tup [.agg [.sl false 163 12 (tE ts)],.bool ok]/\(∀ n∈ts,RO n)/\ts.length<=9
theorem gD:Zl2 (.tup [.agg [.sl false 163 12 []],.bool false]):=⟨[],false,rfl,s_⟩
theorem Z6W(ls:List Lk)(hl:ls.length<=500)(hg:∀ l∈ls,D6 l)(o:List Int)(ho:o.length<=100000):AF prog 85 [.sl true 186 11 (kE ls),.sl true 3 1 (iE o)] Zl2:=by
 have n0:=Z1t ls o_ hg;cases hj:Pq ls with
 |none =>
  rw[hj]at n0;simp only[GM,Jb]at n0;refine BI func85 ntmps85 results85 ?_;simp -implicitDefEqProofs [-getElem?_pos,-exists_and_left,-exists_and_right,-Z3];refine Ah [] n0 ?_;simp -implicitDefEqProofs [-getElem?_pos,-exists_and_left,-exists_and_right,-Z3];refine Zr ?_ rfl gD;simp -implicitDefEqProofs [-getElem?_pos,-exists_and_left,-exists_and_right,-Z3]
 |some p =>
  obtain⟨m,e⟩:=p;rw[hj]at n0;simp only[GM]at n0;obtain⟨sm,ge,oe,vl⟩:=ZcX hg hj;have n1:=Z9y m sm o ho;refine BI func85 ntmps85 results85 ?_;simp -implicitDefEqProofs [-getElem?_pos,-exists_and_left,-exists_and_right,-Z3];refine Ah [] n0 ?_;simp -implicitDefEqProofs [-getElem?_pos,-exists_and_left,-exists_and_right,-Z3,dQ];refine Zv [] n1 ?_;rintro _ ⟨b,rfl,hb⟩;cases b
  .simp -implicitDefEqProofs [-getElem?_pos,-exists_and_left,-exists_and_right,-Z3,dQ];refine Zr ?_ rfl gD;simp -implicitDefEqProofs [-getElem?_pos,-exists_and_left,-exists_and_right,-Z3]
  have Wp:=hb rfl;simp -implicitDefEqProofs [-getElem?_pos,-exists_and_left,-exists_and_right,-Z3,dQ];refine ZF (fun σ=>∃ (k st s9:Nat) (ts:List Tn),k<=o.length/\ts.length=k/\(∀ n∈ts,RO n)/\σ.env 0=.sl true 186 11 (kE ls)/\σ.env 1=.sl true 3 1 (iE o)/\σ.env 4=.ptr 4 0 0 0/\σ.box 4=some ⟨118,1,0,[[.nil]],false⟩/\σ.env 9=.ptr 9 s9 0 0/\σ.box 9=some ⟨118,1,s9,[[.vw 95 st]],false⟩/\σ.box 95=some ⟨163,12,st,tE ts,true⟩/\σ.env 33=.sl true 3 1 (iE o)/\σ.env 34=.int .i64 o.length/\σ.env 35=.int .i64 k) (fun σ=>10-BU (σ.env 35)) (nI _ 9 0 0 95 163 12 AO (by simp;intro b cs hb hc;subst hb;simp at hc;subst hc;simp)) ?_ ?_
  .exact⟨0,_,_,[],o_,rfl,s_,s_,s_,s_,s_,by simp;rfl,by simp;rfl,s_⟩
  .rintro σ ⟨k,st,s9,ts,hk,tl,gt,e0,e1,e4,b4,e9,b9,VH,e33,e34,e35⟩;by_cases ga:k<o.length
   .obtain⟨v,hv⟩:∃ v,o[k]? = some v:=⟨_,Z4 ga⟩;have hv2:=Yu hv;simp -implicitDefEqProofs [-getElem?_pos,-exists_and_left,-exists_and_right,-Z3,e0,e1,e4,b4,e9,b9,VH,e33,e34,e35,ga,hv2];refine ZF (fun σ=>∃ (j so:Nat) (own:List Lk),j<=ls.length/\own.length<=j/\(∀ l∈own,D6 l)/\(∀ l∈own,QU l=true)/\σ.env 0=.sl true 186 11 (kE ls)/\σ.env 1=.sl true 3 1 (iE o)/\σ.env 4=.ptr 4 0 0 0/\σ.box 4=some ⟨118,1,0,[[.nil]],false⟩/\σ.env 9=.ptr 9 s9 0 0/\σ.box 9=some ⟨118,1,s9,[[.vw 95 st]],false⟩/\σ.box 95=some ⟨163,12,st,tE ts,true⟩/\σ.env 33=.sl true 3 1 (iE o)/\σ.env 34=.int .i64 o.length/\σ.env 35=.int .i64 k/\σ.env 10=.int .i64 k/\σ.env 11=.int .i64 v/\σ.env 12=.vw 40 so/\σ.box 40=some ⟨186,11,so,kE own,true⟩/\σ.env 41=.sl true 186 11 (kE ls)/\σ.env 42=.int .i64 ls.length/\σ.env 43=.int .i64 j) (fun σ=>501-BU (σ.env 43)) (AZ _) ?_ ?_
    .exact⟨0,_,[],o_,s_,s_,s_,by simp[e0],by simp[e1],by simp[e4],by simp[b4],by simp[e9],by simp[b9],by simp[VH],by simp[e33],by simp[e34],by simp[e35],s_,s_,by simp;rfl,by simp[kE]⟩
    clear e0 e1 e4 b4 e9 b9 VH e33 e34 e35
    .rintro σ2 ⟨j,so,own,hj2,hol,og,ov,E⟩;by_cases gb:j<ls.length
     .obtain⟨x,hx⟩:∃ x,ls[j]? = some x:=⟨_,Z4 gb⟩;have hx2:=Pm hx;have hxm:=Z6 hx;have m1:=Q5 (o.take k) x.b AR;have m2:=Q5 (o.take k) x.a AR;have htk:List.take k (iE o)=iE (o.take k):=ZeB o k;have lo:(kE own).length=own.length:=oP own;generalize decide (x.b∈o.take k)=c1 at *
      generalize decide (x.a∈o.take k)=c2 at *
      have Pw:k<=o.length:=hk;have hab:=(VB (vl x hxm)).2.2;by_cases hA:x.a=v
      .have hB:¬ x.b=v:=by omega
       cases c1
       .simp -implicitDefEqProofs [-getElem?_pos,-exists_and_left,-exists_and_right,-Z3,E,gb,hx2,Bd,htk,Pw,hA,hB];refine Ah [] m1 ?_;simp -implicitDefEqProofs [-getElem?_pos,-exists_and_left,-exists_and_right,-Z3,E,gb,hx2,Bd,htk,Pw,hA,hB]
        ((repeat' with_reducible apply And.intro)<;> try exact Ye);refine BD (AZ _) ⟨j+1,_,own++[x],o_,AR,Qp og (hg x hxm),Qp ov (vl x hxm),by simp[E],by simp[E],by simp[E],by simp[E],by simp[E],by simp[E],by simp[E],by simp[E],by simp[E],by simp[E],by simp[E],by simp[E],by simp;rfl,by simp[<- VA,Bd,hA,E]⟩ (by simp[E];omega)
       .simp -implicitDefEqProofs [-getElem?_pos,-exists_and_left,-exists_and_right,-Z3,E,gb,hx2,Bd,htk,Pw,hA,hB];refine Ah [] m1 ?_;simp -implicitDefEqProofs [-getElem?_pos,-exists_and_left,-exists_and_right,-Z3,E,gb,hx2,Bd,htk,Pw,hA,hB]
        ((repeat' with_reducible apply And.intro)<;> try exact Ye);refine BD (AZ _) ⟨j+1,so,own,o_,o_,og,ov,by simp[E]⟩ (by simp[E];omega)
      .by_cases hB:x.b=v
       .cases c2
        .simp -implicitDefEqProofs [-getElem?_pos,-exists_and_left,-exists_and_right,-Z3,E,gb,hx2,Bd,htk,Pw,hA,hB];refine Ah [] m2 ?_;simp -implicitDefEqProofs [-getElem?_pos,-exists_and_left,-exists_and_right,-Z3,E,gb,hx2,Bd,htk,Pw,hA,hB]
         ((repeat' with_reducible apply And.intro)<;> try exact Ye);refine BD (AZ _) ⟨j+1,_,own++[x],o_,AR,Qp og (hg x hxm),Qp ov (vl x hxm),by simp[E],by simp[E],by simp[E],by simp[E],by simp[E],by simp[E],by simp[E],by simp[E],by simp[E],by simp[E],by simp[E],by simp[E],by simp;rfl,by simp[<- VA,Bd,hB,E]⟩ (by simp[E];omega)
        .simp -implicitDefEqProofs [-getElem?_pos,-exists_and_left,-exists_and_right,-Z3,E,gb,hx2,Bd,htk,Pw,hA,hB];refine Ah [] m2 ?_;simp -implicitDefEqProofs [-getElem?_pos,-exists_and_left,-exists_and_right,-Z3,E,gb,hx2,Bd,htk,Pw,hA,hB]
         ((repeat' with_reducible apply And.intro)<;> try exact Ye);refine BD (AZ _) ⟨j+1,so,own,o_,o_,og,ov,by simp[E]⟩ (by simp[E];omega)
       .simp -implicitDefEqProofs [-getElem?_pos,-exists_and_left,-exists_and_right,-Z3,E,gb,hx2,Bd,htk,Pw,hA,hB]
        ((repeat' with_reducible apply And.intro)<;> try exact Ye);refine BD (AZ _) ⟨j+1,so,own,o_,o_,og,ov,by simp[E]⟩ (by simp[E];omega)
     .have n5:=Z6N ts o_ gt o o_ v own o_ og ov;simp -implicitDefEqProofs [-getElem?_pos,-exists_and_left,-exists_and_right,-Z3,E,gb];refine Zv [40] n5 ?_;rintro _ ⟨n,ok,rfl,gn⟩;cases ok
      .simp -implicitDefEqProofs [-getElem?_pos,-exists_and_left,-exists_and_right,-Z3,E,gb,Fe];refine Zr ?_ rfl gD;simp -implicitDefEqProofs [-getElem?_pos,-exists_and_left,-exists_and_right,-Z3,E]
      .have lt:(tE ts).length=ts.length:=Zqm ts;simp -implicitDefEqProofs [-getElem?_pos,-exists_and_left,-exists_and_right,-Z3,E,gb,Fe]
       ((repeat' with_reducible apply And.intro)<;> try exact Ye);refine BD (AZ _) ⟨k+1,_,s9,ts++[n],o_,by simp[tl],Qp gt gn,by simp[E],by simp[E],by simp[E],by simp[E],by simp[E],by simp[E];rfl,by simp[<- Ziu,Fe,E]⟩ (by simp[E];omega)
   .have n5:=Z8v ts o_ (fun n h=>(gt n h).g);simp -implicitDefEqProofs [-getElem?_pos,-exists_and_left,-exists_and_right,-Z3,e0,e1,e4,b4,e9,b9,VH,e33,e34,e35,ga];refine Ah [] n5 ?_;simp -implicitDefEqProofs [-getElem?_pos,-exists_and_left,-exists_and_right,-Z3,e0,e1,e4,b4,e9,b9,VH,e33,e34,e35,ga];refine Zr (r:=.tup [.agg [.sl false 163 12 (tE ts)],.bool true]) ?_ rfl ⟨ts,true,rfl,gt,o_⟩;simp -implicitDefEqProofs [-getElem?_pos,-exists_and_left,-exists_and_right,-Z3,e0,e1,e4,b4,e9,b9,VH,e33,e34,e35,ga]
theorem Z3C(l:List A7)(hf:YW l=true)(f:A7)(hv:Zy f=true):AF prog 112 [.sl true 35 8 (fE l),.agg (fA f)] (fun r=>∃ (k:Lk) (ok:Bool),r=.tup [.agg (Bd k),.bool ok]/\D6 k):=by
 have hno:∃ (k:Lk) (ok:Bool),AV.tup [.agg (Bd U7),.bool false]=.tup [.agg (Bd k),.bool ok]/\D6 k:=⟨U7,false,rfl,.zero,.zero,.zero⟩;have hs:=VE hf;have n0:=YU l hs;rw[hf]at n0;have n1:=Z8Z f (ZdQ hv).1 (ZdQ hv).2;rw[hv]at n1;have of:=Z63 hv;obtain⟨x1,x2⟩:=of.x;obtain⟨y1,y2⟩:=of.y;have n2:=Z4D l hs f.Z00;have n3:=Z4D l hs f.AL;have n4:=Z6V l hf f.AL;refine BI func112 ntmps112 results112 ?_;simp[-getElem?_pos,-exists_and_left,-exists_and_right,-Z3,fA];refine Ah [] n0 ?_;simp[-getElem?_pos,-exists_and_left,-exists_and_right,-Z3];refine Ah [] n1 ?_;simp[-getElem?_pos,-exists_and_left,-exists_and_right,-Z3,fA];refine Zv [] n2 ?_;rintro _ ⟨b,rfl,b1,b2⟩;by_cases hb:b=0
 .simp[-getElem?_pos,-exists_and_left,-exists_and_right,-Z3,fA,hb];refine Zr ?_ rfl hno;simp[-getElem?_pos,-exists_and_left,-exists_and_right,-Z3,Lt]
 simp[-getElem?_pos,-exists_and_left,-exists_and_right,-Z3,fA,hb];refine⟨EM BC,?_⟩;by_cases k1:f.kind=1
 .have n5:=J2 0 b f.Ao f.Af.x f.Af.y o_ o_;simp[-getElem?_pos,-exists_and_left,-exists_and_right,-Z3,fA,hb,k1];refine Zv [] n5 ?_;rintro _ ⟨k,ok,rfl,gk⟩;simp[-getElem?_pos,-exists_and_left,-exists_and_right,-Z3,fA,Bd];refine Zr (r:=.tup [.agg (Bd k),.bool ok]) ?_ rfl ⟨k,ok,rfl,gk⟩;simp[-getElem?_pos,-exists_and_left,-exists_and_right,-Z3,Bd]
 simp[-getElem?_pos,-exists_and_left,-exists_and_right,-Z3,fA,hb,k1];refine Zv [] n3 ?_;rintro _ ⟨a,rfl,a1,a2⟩;by_cases ha:a=0
 .simp[-getElem?_pos,-exists_and_left,-exists_and_right,-Z3,fA,ha];refine Zr ?_ rfl hno;simp[-getElem?_pos,-exists_and_left,-exists_and_right,-Z3,Lt]
 by_cases hz:f.Af.x=0/\f.Af.y=0
 .obtain⟨z1,z2⟩:=hz;have n5:=J2 a b f.Ao 0 0 o_ o_;simp[-getElem?_pos,-exists_and_left,-exists_and_right,-Z3,fA,hb,k1,ha,z1,z2];refine Zv [] n5 ?_;rintro _ ⟨k,ok,rfl,gk⟩;simp[-getElem?_pos,-exists_and_left,-exists_and_right,-Z3,fA,Bd];refine Zr (r:=.tup [.agg (Bd k),.bool ok]) ?_ rfl ⟨k,ok,rfl,gk⟩;simp[-getElem?_pos,-exists_and_left,-exists_and_right,-Z3,Bd]
 by_cases z1:f.Af.x=0
 .have z2:¬ f.Af.y=0:=fun h=>hz ⟨z1,h⟩
  simp[-getElem?_pos,-exists_and_left,-exists_and_right,-Z3,fA,hb,k1,ha,z1,z2];refine Zv [] n4 ?_;rintro _ ⟨h,rfl,h1,h2⟩;by_cases hh:h<0
  .simp[-getElem?_pos,-exists_and_left,-exists_and_right,-Z3,fA,hh];refine Zr ?_ rfl hno;simp[-getElem?_pos,-exists_and_left,-exists_and_right,-Z3,Lt]
  have n6:=Xx 0 f.Af.y h;simp[-getElem?_pos,-exists_and_left,-exists_and_right,-Z3,fA,hh,z1];refine Zv [] n6 ?_;rintro _ ⟨u,v,rfl,u1,v1⟩;have n5:=J2 a b f.Ao u v o_ o_;simp[-getElem?_pos,-exists_and_left,-exists_and_right,-Z3,fA,hh,z1];refine Zv [] n5 ?_;rintro _ ⟨k,ok,rfl,gk⟩;simp[-getElem?_pos,-exists_and_left,-exists_and_right,-Z3,fA,Bd];refine Zr (r:=.tup [.agg (Bd k),.bool ok]) ?_ rfl ⟨k,ok,rfl,gk⟩;simp[-getElem?_pos,-exists_and_left,-exists_and_right,-Z3,Bd]
 simp[-getElem?_pos,-exists_and_left,-exists_and_right,-Z3,fA,hb,k1,ha,z1];refine Zv [] n4 ?_;rintro _ ⟨h,rfl,h1,h2⟩;by_cases hh:h<0
 .simp[-getElem?_pos,-exists_and_left,-exists_and_right,-Z3,fA,hh];refine Zr ?_ rfl hno;simp[-getElem?_pos,-exists_and_left,-exists_and_right,-Z3,Lt]
 have n6:=Xx f.Af.x f.Af.y h;simp[-getElem?_pos,-exists_and_left,-exists_and_right,-Z3,fA,hh,z1];refine Zv [] n6 ?_;rintro _ ⟨u,v,rfl,u1,v1⟩;have n5:=J2 a b f.Ao u v o_ o_;simp[-getElem?_pos,-exists_and_left,-exists_and_right,-Z3,fA,hh,z1];refine Zv [] n5 ?_;rintro _ ⟨k,ok,rfl,gk⟩;simp[-getElem?_pos,-exists_and_left,-exists_and_right,-Z3,fA,Bd];refine Zr (r:=.tup [.agg (Bd k),.bool ok]) ?_ rfl ⟨k,ok,rfl,gk⟩;simp[-getElem?_pos,-exists_and_left,-exists_and_right,-Z3,Bd]
def Zob(n:Nat)(r:AV):Prop:=∃ (ls:List Lk) (ok:Bool),r=.tup [.sl false 186 11 (kE ls),.bool ok]/\(∀ l∈ls,D6 l)/\ls.length<=n
theorem ZdF(n:Nat):Zob n (.tup [.sl false 186 11 [],.bool false]):=⟨[],false,rfl,s_⟩
theorem Z9x(l:List A7)(hs:K3 l)(sk:List Int)(hk:sk.length<=1000):AF prog 83 [.sl true 35 8 (fE l),.sl true 3 1 (iE sk)] (Zob 40):=by
 have n0:=YU l hs;cases hf:YW l
 .rw[hf]at n0;refine BI func83 ntmps83 results83 ?_;simp[-getElem?_pos,-exists_and_left,-exists_and_right,-Z3];refine Ah [] n0 ?_;simp[-getElem?_pos,-exists_and_left,-exists_and_right,-Z3];refine Zr ?_ rfl (ZdF _);simp[-getElem?_pos,-exists_and_left,-exists_and_right,-Z3]
 rw[hf]at n0;obtain⟨h1,h2,h3⟩:=X5 hf;refine BI func83 ntmps83 results83 ?_;simp[-getElem?_pos,-exists_and_left,-exists_and_right,-Z3];refine Ah [] n0 ?_;simp[-getElem?_pos,-exists_and_left,-exists_and_right,-Z3];refine ZF (fun σ=>∃ (k st:Nat) (ls:List Lk),k<=l.length/\ls.length<=k/\(∀ x∈ls,D6 x)/\σ.env 0=.sl true 35 8 (fE l)/\σ.env 1=.sl true 3 1 (iE sk)/\σ.env 6=.vw 14 st/\σ.box 14=some ⟨186,11,st,kE ls,true⟩/\σ.env 15=.sl true 35 8 (fE l)/\σ.env 16=.int .i64 l.length/\σ.env 17=.int .i64 k) (fun σ=>41-BU (σ.env 17)) (AZ _) ?_ ?_
 .exact⟨0,_,[],Zs _,s_,s_,s_,s_,by simp;rfl,by simp[kE]⟩
 .rintro σ ⟨k,st,ls,hk2,hls,Uc,E⟩;by_cases gk:k<l.length
  .obtain⟨x,hx⟩:∃ x,l[k]? = some x:=⟨_,Z4 gk⟩;have hx2:=RH hx;have n1:=Q5 sk x.id o_;cases hd:decide (x.id∈sk)
   .rw[hd]at n1;have n2:=Z3C l hf x (ZfQ hf x (Z6 hx));simp[-getElem?_pos,-exists_and_left,-exists_and_right,-Z3,E,gk,hx2,fA];refine Ah [] n1 ?_;simp[-getElem?_pos,-exists_and_left,-exists_and_right,-Z3,E,gk,hx2,fA];refine Zv [] n2 ?_;rintro _ ⟨y,ok,rfl,gy⟩;cases ok
    .simp[-getElem?_pos,-exists_and_left,-exists_and_right,-Z3,E,gk,hx2,fA,Bd];refine Zr ?_ rfl (ZdF _);simp[-getElem?_pos,-exists_and_left,-exists_and_right,-Z3]
    .have hn:=VA ls y;simp only[Bd]at hn;have hlen:(kE ls).length<=k:=by simpa using hls
     simp[-getElem?_pos,-exists_and_left,-exists_and_right,-Z3,E,gk,hx2,fA,Bd,hls,hn]
     ((repeat' with_reducible apply And.intro)<;> try exact Ye);refine BD (AZ _) ⟨k+1,_,ls++[y],o_,AR,Qp Uc gy,by simp[E],by simp[E],by simp;rfl,by simp[hn,E]⟩ (by simp[E];omega)
   .rw[hd]at n1;simp[-getElem?_pos,-exists_and_left,-exists_and_right,-Z3,E,gk,hx2,fA];refine Ah [] n1 ?_;simp[-getElem?_pos,-exists_and_left,-exists_and_right,-Z3,E,gk,hx2,fA]
    ((repeat' with_reducible apply And.intro)<;> try exact Ye);refine BD (AZ _) ⟨k+1,st,ls,o_,o_,Uc,by simp[E]⟩ (by simp[E];omega)
  .obtain rfl:k=l.length:=by omega
   simp[-getElem?_pos,-exists_and_left,-exists_and_right,-Z3,E];refine Zr (r:=.tup [.sl false 186 11 (kE ls),.bool true]) ?_ rfl ⟨ls,true,rfl,Uc,o_⟩;simp[-getElem?_pos,-exists_and_left,-exists_and_right,-Z3,E];exact⟨none,s_⟩
theorem Z8C(l:List A7)(hs:K3 l)(sk:List Int)(hk:sk.length<=1000):AF prog 57 [.sl true 35 8 (fE l),.sl true 3 1 (iE sk)] Zl2:=by
 have n0:=Z9x l hs sk hk;refine BI func57 ntmps57 results57 ?_;simp[-getElem?_pos,-exists_and_left,-exists_and_right,-Z3];refine Zv [] n0 ?_;rintro _ ⟨ls,ok,rfl,Uc,hls⟩;cases ok
 .simp[-getElem?_pos,-exists_and_left,-exists_and_right,-Z3];refine Zr ?_ rfl gD;simp[-getElem?_pos,-exists_and_left,-exists_and_right,-Z3]
 have n1:=Z1t ls o_ Uc;cases hj:Pq ls with
 |none =>
  rw[hj]at n1;simp[-getElem?_pos,-exists_and_left,-exists_and_right,-Z3];refine Ah [] n1 ?_;simp[-getElem?_pos,-exists_and_left,-exists_and_right,-Z3,GM,Jb];refine Zr ?_ rfl gD;simp[-getElem?_pos,-exists_and_left,-exists_and_right,-Z3]
 |some q =>
  obtain⟨m,e⟩:=q;rw[hj]at n1;obtain⟨hm,_,_,_⟩:=ZcX Uc hj;have n2:=Z1X m hm [] s_;simp[-getElem?_pos,-exists_and_left,-exists_and_right,-Z3];refine Ah [] n1 ?_;simp[-getElem?_pos,-exists_and_left,-exists_and_right,-Z3,GM,dQ];refine Zv [] n2 ?_;rintro _ ⟨o,ho,LU,rfl⟩;have n3:=Z6W ls o_ Uc o o_;simp[-getElem?_pos,-exists_and_left,-exists_and_right,-Z3];refine Zv [] n3 ?_;rintro _ ⟨ts,ok,rfl,gts,hts⟩;simp[-getElem?_pos,-exists_and_left,-exists_and_right,-Z3];refine Zr (r:=.tup [.agg [.sl false 163 12 (tE ts)],.bool ok]) ?_ rfl ⟨ts,ok,rfl,gts,hts⟩;simp[-getElem?_pos,-exists_and_left,-exists_and_right,-Z3]
def pQ:AV->Nat
 |.int _ n=>(n+1).toNat
 |_=>0
@[simp] theorem ZsJ(k:IntKind)(n:Int):pQ (.int k n)=(n+1).toNat:=rfl
theorem Zd5(net:List Cd)(hl:net.length<=1000)(g:∀ c∈net,Mb c/\c.ps.length<=1000):AF prog 125 [.sl true 161 5 (cE net)] (fun r=>∃ b,r=.bool b/\(b=true->∀ c∈net,VC c)):=by
 refine BI func125 ntmps125 results125 ?_;simp[-getElem?_pos,-exists_and_left,-exists_and_right,-Z3]
 ((repeat' with_reducible apply And.intro)<;> try exact Ye);refine ZF (fun σ=>∃ (k st:Nat) (ns:List Int),k<=net.length/\ns.length<=1001-k/\(∀ c∈net.drop k,VC c)/\σ.env 0=.sl true 161 5 (cE net)/\σ.env 3=.vw 7 st/\σ.box 7=some ⟨3,1,st,iE ns,true⟩/\σ.env 4=.int .i64 ((k:Int)-1)) (fun σ=>pQ (σ.env 4)) (AZ _) ?_ ?_
 .exact⟨net.length,_,[0],Nat.le_refl _,by simp<;>omega,s_,s_,by simp<;>rfl,by simp[iE]⟩
 .rintro σ ⟨k,st,ns,hk,hns,hv,e0,e3,b7,e4⟩;by_cases gk:k=0
  .subst gk;simp[-getElem?_pos,-exists_and_left,-exists_and_right,-Z3,e0,e3,b7,e4];refine Zr (r:=.bool true) ?_ rfl ⟨true,rfl,fun _=>by simpa using hv⟩;simp[-getElem?_pos,-exists_and_left,-exists_and_right,-Z3]
  .obtain⟨j,rfl⟩:∃ j,k=j+1:=⟨k-1,o_⟩;have e4:σ.env 4=.int .i64 (j:Int):=by rw[e4];simp[-getElem?_pos,-exists_and_left,-exists_and_right,-Z3]
   have gj:j<net.length:=by omega
   obtain⟨x,hx⟩:∃ x,net[j]? = some x:=⟨_,Z4 gj⟩;have hx2:=ZkG hx;obtain⟨gx,gl⟩:=g x (Z6 hx);have n1:=Qk x o_ gx;simp[-getElem?_pos,-exists_and_left,-exists_and_right,-Z3,e0,e3,b7,e4,gj,hx2,Dg];refine Zv [] n1 ?_;rintro _ ⟨b,rfl,hb⟩;cases b
   .simp[-getElem?_pos,-exists_and_left,-exists_and_right,-Z3,e0,e3,b7,e4,gj,hx2,Dg];refine Zr (r:=.bool false) ?_ rfl ⟨false,rfl,s_⟩;simp[-getElem?_pos,-exists_and_left,-exists_and_right,-Z3]
   have hb:=hb rfl;have n2:=Q5 ns x.nd o_;cases hd:decide (x.nd∈ns)
   .rw[hd]at n2;simp[-getElem?_pos,-exists_and_left,-exists_and_right,-Z3,e0,e3,b7,e4,gj,hx2,Dg];refine Ah [] n2 ?_;simp[-getElem?_pos,-exists_and_left,-exists_and_right,-Z3,e0,e3,b7,e4,gj,hx2,Dg];refine ZF (fun σ=>∃ i:Nat,i<=x.ps.length/\σ.env 0=.sl true 161 5 (cE net)/\σ.env 3=.vw 7 st/\σ.box 7=some ⟨3,1,st,iE ns,true⟩/\σ.env 4=.int .i64 (j:Int)/\σ.env 34=.sl false 233 10 (pE x.ps)/\σ.env 35=.int .i64 x.ps.length/\σ.env 36=.int .i64 i) (fun σ=>1001-BU (σ.env 36)) (AZ _) ?_ ?_
    .exact⟨0,Zs _,by simp[e0,e3,b7,e4]⟩
    .rintro σ ⟨i,hi,E⟩;by_cases gi:i<x.ps.length
     .obtain⟨p,hp⟩:∃ p,x.ps[i]? = some p:=⟨_,Z4 gi⟩;have hp2:=Po hp;have n3:=Q5 ns p.nd o_;cases hd2:decide (p.nd∈ns)
      .rw[hd2]at n3;simp[-getElem?_pos,-exists_and_left,-exists_and_right,-Z3,E,gi,hp2,Cv];refine Ah [] n3 ?_;simp[-getElem?_pos,-exists_and_left,-exists_and_right,-Z3,E,gi,hp2,Cv];refine Zr (r:=.bool false) ?_ rfl ⟨false,rfl,s_⟩;simp[-getElem?_pos,-exists_and_left,-exists_and_right,-Z3]
      .rw[hd2]at n3;simp[-getElem?_pos,-exists_and_left,-exists_and_right,-Z3,E,gi,hp2,Cv];refine Ah [] n3 ?_;simp[-getElem?_pos,-exists_and_left,-exists_and_right,-Z3,E,gi,hp2,Cv]
       ((repeat' with_reducible apply And.intro)<;> try exact Ye);refine BD (AZ _) ⟨i+1,o_,by simp[E]⟩ (by simp[E];omega)
     .obtain rfl:i=x.ps.length:=by omega
      have hn:=QH ns x.nd;have hlen:(iE ns).length<=1001:=by simp;omega
      have hdr:∀ c∈net.drop j,VC c:=by
       rw[List.drop_eq_getElem_cons gj];intro c hc;rcases List.mem_cons.1 hc with rfl|hc
       .rw[Z4 gj]at hx;cases hx;exact hb
       .exact hv c hc
      simp[-getElem?_pos,-exists_and_left,-exists_and_right,-Z3,E,gj,hx2,Dg]
      ((repeat' with_reducible apply And.intro)<;> try exact Ye);refine BD (AZ _) ⟨j,_,ns++[x.nd],o_,by simp<;>omega,hdr,by simp[E],by simp<;>rfl,by simp[hn]⟩ (by simp[E]<;> omega)
   .rw[hd]at n2;simp[-getElem?_pos,-exists_and_left,-exists_and_right,-Z3,e0,e3,b7,e4,gj,hx2,Dg];refine Ah [] n2 ?_;simp[-getElem?_pos,-exists_and_left,-exists_and_right,-Z3,e0,e3,b7,e4,gj,hx2,Dg];refine Zr (r:=.bool false) ?_ rfl ⟨false,rfl,s_⟩;simp[-getElem?_pos,-exists_and_left,-exists_and_right,-Z3]
theorem Zq6:Dx ⟨zR,zR⟩=[.bool false,.sl false 3 1 [],.sl false 3 1 [],.bool false,.sl false 3 1 [],.sl false 3 1 []]:=by unfold Dx zR;simp[-getElem?_pos,-exists_and_left,-exists_and_right,-Z3,Yd]
def Zoe(r:AV):Prop:=∃ (p:Pt) (ok:Bool),r=.tup [.agg (Dx p),.bool ok]/\Kw p
theorem pR:Zoe (.tup [.agg [.bool false,.sl false 3 1 [],.sl false 3 1 [],.bool false,.sl false 3 1 [],.sl false 3 1 []],.bool false]):=⟨⟨zR,zR⟩,false,by rw[Zq6],.zero,.zero⟩
theorem Z1h(c:Cd)(g:Mb c)(hl:c.ps.length<=1000)(ps:List Pt)(hp:ps.length<=1000)(gp:∀ p∈ps,Kw p):AF prog 127 [.agg (Dg c),.sl true 89 6 (EN ps)] Zoe:=by
 have n1:=Qk c o_ g;have hz:=Z1r;have gz:Kw ⟨Dw 0,Dw 0⟩:=⟨YS AO,YS AO⟩;generalize (⟨Dw 0,Dw 0⟩:Pt)=z at *
 refine BI func127 ntmps127 results127 ?_;simp[-getElem?_pos,-exists_and_left,-exists_and_right,-Z3,Dg];refine Zv [] n1 ?_;rintro _ ⟨b,rfl,hb⟩;cases b
 .simp[-getElem?_pos,-exists_and_left,-exists_and_right,-Z3];refine Zr ?_ rfl pR;simp[-getElem?_pos,-exists_and_left,-exists_and_right,-Z3]
 obtain⟨hv1,hv2,hv3⟩:=hb rfl;simp[-getElem?_pos,-exists_and_left,-exists_and_right,-Z3,Dg];refine Ah [] hz ?_;simp[-getElem?_pos,-exists_and_left,-exists_and_right,-Z3,Dg,Dx];refine ZF (fun σ=>∃ (k s6:Nat) (q:Pt),k<=c.ps.length/\Kw q/\σ.env 1=.sl true 89 6 (EN ps)/\σ.env 4=.ptr 4 1 0 0/\σ.box 4=some ⟨89,6,1,[[.bool false,.nil,.nil,.bool false,.nil,.nil]],false⟩/\σ.env 6=.ptr 6 s6 0 0/\σ.box 6=some ⟨89,6,s6,[Dx q],false⟩/\σ.env 15=.sl false 233 10 (pE c.ps)/\σ.env 16=.int .i64 c.ps.length/\σ.env 17=.int .i64 k) (fun σ=>1001-BU (σ.env 17)) (AZ _) ?_ ?_
 .exact⟨0,_,z,Zs _,gz,s_,s_,s_,by simp<;>rfl,by simp[Dx]⟩
 .rintro σ ⟨k,s6,q,hk,gq,E⟩;by_cases gk:k<c.ps.length
  .obtain⟨x,hx⟩:∃ x,c.ps[k]? = some x:=⟨_,Z4 gk⟩;have hx2:=Po hx;obtain⟨w1,w2⟩:=hv2 x (Z6 hx);obtain⟨gx1,pP,gx3⟩:=g.2 x (Z6 hx);by_cases gn:x.nd<ps.length
   .obtain⟨nd,hnd⟩:=Int.eq_ofNat_of_zero_le w1;have RP:nd<ps.length:=by omega
    have Ud:(ps.length<=nd)=False:=eq_false o_;obtain⟨y,hy⟩:∃ y,ps[nd]? = some y:=⟨_,Z4 RP⟩;have hy2:=Zec hy;obtain⟨gy1,gy2⟩:=gp y (Z6 hy);have m1:=Z1e y.x x.dx gy1 pP;have m2:=YL x.sh (Xc y.x x.dx) gx1 (Q2 _ _);have m3:=Yy q.x (XX x.sh (Xc y.x x.dx)) gq.1 (QA _ _);have m4:=Z1e y.y x.dy gy2 gx3;have m5:=YL x.sh (Xc y.y x.dy) gx1 (Q2 _ _);have m6:=Yy q.y (XX x.sh (Xc y.y x.dy)) gq.2 (QA _ _);have g1:=Q2 q.x (XX x.sh (Xc y.x x.dx));have g2:=Q2 q.y (XX x.sh (Xc y.y x.dy));generalize Xc q.x (XX x.sh (Xc y.x x.dx))=r1 at *
    generalize Xc q.y (XX x.sh (Xc y.y x.dy))=r2 at *
    generalize XX x.sh (Xc y.x x.dx)=r3 at *
    generalize XX x.sh (Xc y.y x.dy)=r4 at *
    generalize Xc y.x x.dx=r5 at *
    generalize Xc y.y x.dy=r6 at *
    simp[-getElem?_pos,-exists_and_left,-exists_and_right,-Z3,E,gk,hx2,Cv,hnd,RP,Ud,hy2,Dx];refine Ah [] m1 ?_;simp[-getElem?_pos,-exists_and_left,-exists_and_right,-Z3,E,gk,hx2,Cv,hnd,RP,Ud,hy2,Dx,dQ];refine Ah [] m2 ?_;simp[-getElem?_pos,-exists_and_left,-exists_and_right,-Z3,E,gk,hx2,Cv,hnd,RP,Ud,hy2,Dx,dQ];refine Ah [] m3 ?_;simp[-getElem?_pos,-exists_and_left,-exists_and_right,-Z3,E,gk,hx2,Cv,hnd,RP,Ud,hy2,Dx,dQ];refine⟨EM BC,?_⟩;refine Ah [] m4 ?_;simp[-getElem?_pos,-exists_and_left,-exists_and_right,-Z3,E,gk,hx2,Cv,hnd,RP,Ud,hy2,Dx,dQ];refine Ah [] m5 ?_;simp[-getElem?_pos,-exists_and_left,-exists_and_right,-Z3,E,gk,hx2,Cv,hnd,RP,Ud,hy2,Dx,dQ];refine Ah [] m6 ?_;simp[-getElem?_pos,-exists_and_left,-exists_and_right,-Z3,E,gk,hx2,Cv,hnd,RP,Ud,hy2,Dx,dQ]
    ((repeat' with_reducible apply And.intro)<;> try exact Ye);refine BD (AZ _) ⟨k+1,s6,⟨r1,r2⟩,o_,⟨g1,g2⟩,by simp[E,Dx]⟩ (by simp[E];omega)
   .simp[-getElem?_pos,-exists_and_left,-exists_and_right,-Z3,E,gk,hx2,Cv,show(ps.length:Int)<=x.nd by omega];refine Zr ?_ rfl pR;simp[-getElem?_pos,-exists_and_left,-exists_and_right,-Z3,E]
  .obtain rfl:k=c.ps.length:=by omega
   have m1:=Yw q.x;have m2:=Yw q.y;cases h1:QC q.x
   .rw[h1]at m1;simp[-getElem?_pos,-exists_and_left,-exists_and_right,-Z3,E,Dx];refine Ah [] m1 ?_;simp[-getElem?_pos,-exists_and_left,-exists_and_right,-Z3,E,Dx];refine Zr ?_ rfl pR;simp[-getElem?_pos,-exists_and_left,-exists_and_right,-Z3,E]
   rw[h1]at m1;cases h2:QC q.y
   .rw[h2]at m2;simp[-getElem?_pos,-exists_and_left,-exists_and_right,-Z3,E,Dx];refine Ah [] m1 ?_;simp[-getElem?_pos,-exists_and_left,-exists_and_right,-Z3,E,Dx];refine Ah [] m2 ?_;simp[-getElem?_pos,-exists_and_left,-exists_and_right,-Z3,E,Dx];refine Zr ?_ rfl pR;simp[-getElem?_pos,-exists_and_left,-exists_and_right,-Z3,E]
   rw[h2]at m2;simp[-getElem?_pos,-exists_and_left,-exists_and_right,-Z3,E,Dx];refine Ah [] m1 ?_;simp[-getElem?_pos,-exists_and_left,-exists_and_right,-Z3,E,Dx];refine Ah [] m2 ?_;simp[-getElem?_pos,-exists_and_left,-exists_and_right,-Z3,E,Dx];refine Zr (r:=.tup [.agg (Dx q),.bool true]) ?_ rfl ⟨q,true,rfl,gq⟩;simp[-getElem?_pos,-exists_and_left,-exists_and_right,-Z3,E,Dx]
end Go.Proofs.YtcnbphnnfmphlaaGreatDoor
