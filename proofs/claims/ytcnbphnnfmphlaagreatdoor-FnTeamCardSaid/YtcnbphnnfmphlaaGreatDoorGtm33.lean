/- Texts of this proof. -/
import Derived.Test.YtcnbphnnfmphlaaGreatDoorGtm35
namespace Go.Proofs.YtcnbphnnfmphlaaGreatDoor
open Bool renaming exists_bool → Z3,and_eq_true → Zc
open Int renaming eq_ofNat_of_zero_le → Zl
open _root_.List renaming getElem?_eq_getElem → Z4,mem_of_getElem? → Z6,replicate → Zk,getElem?_cons_zero → Zw
open Nat renaming zero_le → Zs
open Option.some renaming injEq → Zi
open Go.Proofs.Tryz
open Go.RowKit
set_option linter.unusedVariables false
set_option linter.unusedSimpArgs false
set_option maxHeartbeats 4000000
set_option maxRecDepth 100000
variable{l:List A7}
attribute [simp] Ll eY nU EL
def RI(h:List Int):Nat:=h.countP fun x=>decide (x<0)
def I8(h:List Int):Prop:=∀ x∈h,-1<=x/\x<=3
theorem oZ:∀ {h:List Int} {k:Nat} {x y:Int},h[k]? = some x->x<0->0<=y->RI (h.set k y)< RI h
 |a::h,0,x,y,hk,hx,hy=>by
  simp only[Zw,Zi]at hk
  subst hk
  have h1:¬ y<0:=by omega
  simp[-getElem?_pos,-exists_and_left,-exists_and_right,-Z3,RI,List.countP_cons,hx,h1]
 |a::h,k+1,x,y,hk,hx,hy=>by
  have:=oZ (h:=h) (k:=k) (by simpa using hk) hx hy
  simp only[RI,List.set_cons_succ,List.countP_cons]at this ⊢
  omega
 |[],k,x,y,hk,_,_=>by simp at hk
theorem I8.set{h:List Int}(hd:I8 h)(k:Nat){y:Int}(h1:-1<=y)(h2:y<=3):I8 (h.set k y):=fun x hx=>by
 rcases List.mem_or_eq_of_mem_set hx with h'|rfl
 .exact hd x h'
 .exact⟨h1,h2⟩
theorem ZrM(l:List Int):(iE l).all (fun cs=>cs.all EL)=true:=by simp[iE,EL]
def Zsr:Option AY->Nat
 |some b=>RI (b.els.map U5)
 |none=>0
theorem ZrG(l:List Int):(iE l).map U5=l:=by
 unfold iE;rw[List.map_map];have:(U5 ∘ fun x=>[AV.int .i64 x])=id:=rfl;rw[this,List.map_id]
@[simp] theorem ZqS(T:TypeId)(sz c:Nat)(l:List Int)(p:Bool):Zsr (some ⟨T,sz,c,iE l,p⟩)=RI l:=by unfold Zsr;simp only;rw[ZrG]
theorem Z4x(l:List A7)(ns:List ByteArray)(h:List Int)(hl:l.length<=100000)(hn:ns.length<=100000)(hh:h.length=ns.length)(hf:∀ f∈l,oL f)(hin:∀ f∈l,Q3 ns f.Z00=true/\(f.kind≠1->Q3 ns f.AL=true))(hr:I8 h):
  FE prog 170 [.sl true 35 8 (fE l),.sl true 9 1 (sE ns),.vw 100000 0] [(3,1,iE h)] (fun r n=>∃ (b:Bool) (h':List Int),r=.bool b/\n=[iE h']/\h'.length=h.length/\I8 h'/\(b=true->RI h'<RI h)):=by
 have hu:∀ d∈[AV.sl true 35 8 (fE l),.sl true 9 1 (sE ns),.vw 100000 0],okV (fun s=>s<1) d:=by simp[okV,Bu,G8]
 have hfit:∀ h':List Int,h'.length=h.length->Kq [(3,1,iE h)] [iE h']=true:=fun h' q=>by simp only[Kq,ZjZ,q,ZrM,beq_self_eq_true,Bool.and_true]
 refine Z37 M8 func170 rfl rfl ntmps170 results170 (by decide +kernel) rfl hu ?_;simp[-getElem?_pos,-exists_and_left,-exists_and_right,-Z3];refine ZF (fun σ=>∃ k:Nat,k<=l.length/\σ.env 1=.sl true 9 1 (sE ns)/\σ.env 2=.vw 100000 0/\σ.box 100000=some ⟨3,1,0,iE h,true⟩/\σ.env 11=.sl true 35 8 (fE l)/\σ.env 12=.int .i64 l.length/\σ.env 13=.int .i64 k) (fun σ=>100001-BU (σ.env 13)) (AZ _) ?_ ?_
 .exact⟨0,Zs _,s_⟩
 .rintro σ ⟨k,hk,e1,e2,eb,E⟩;by_cases ga:k<l.length
  .obtain⟨x,hx⟩:∃ x,l[k]? = some x:=⟨_,Z4 ga⟩;have hx2:=RH hx;have ox:=hf x (Z6 hx);obtain⟨i1,i2⟩:=hin x (Z6 hx);have n1:=YD ns x.AL hn;have n2:=YD ns x.Z00 hn;obtain⟨t1,t2⟩:=ox.turn;simp[-getElem?_pos,-exists_and_left,-exists_and_right,-Z3,e1,e2,eb,E,ga,hx2,fA];refine Zv [] n1 ?_;rintro _ ⟨a,rfl,a1,a2,a3⟩;simp[-getElem?_pos,-exists_and_left,-exists_and_right,-Z3,e1,e2,eb,E,ga,hx2,fA];refine Zv [] n2 ?_;rintro _ ⟨b,rfl,b1,b2,b3⟩;obtain⟨b,rfl⟩:=Zl (b3 i1);obtain⟨y,hy⟩:∃ y,h[b]? = some y:=⟨_,Z4 o_⟩;have hy2:=Yu hy;have gb:b<h.length:=by omega
   obtain⟨y1,y2⟩:=hr y (Z6 hy);by_cases k1:x.kind=1
   .by_cases g1:y<0
    .simp[-getElem?_pos,-exists_and_left,-exists_and_right,-Z3,e1,e2,eb,E,ga,hx2,fA,k1,g1,hy2,gb,Kv];refine RA (r:=.bool true) (ns:=[iE (h.set b x.Af.turn)]) ?_ (hfit _ s_) ⟨true,_,rfl,rfl,s_,hr.set _ o_ o_,fun _=>oZ hy g1 t1⟩;simp[-getElem?_pos,-exists_and_left,-exists_and_right,-Z3,e1,e2,eb,E,ga,hx2,fA,k1,g1,hy2,gb,Kv]
    .simp[-getElem?_pos,-exists_and_left,-exists_and_right,-Z3,e1,e2,eb,E,ga,hx2,fA,k1,g1,hy2,gb]
     ((repeat' with_reducible apply And.intro)<;> try exact Ye);refine BD (AZ _) ⟨k+1,o_,by simp[e1,e2,eb,E]⟩ (by simp[E];omega)
   .by_cases k2:x.kind=2
    .obtain⟨a,rfl⟩:=Zl (a3 (i2 k1));have gc:a<h.length:=by omega
     obtain⟨z,hz⟩:∃ z,h[a]? = some z:=⟨_,Z4 gc⟩;have hz2:=Yu hz;obtain⟨z1,z2⟩:=hr z (Z6 hz);by_cases g1:y<0
     .by_cases g2:0<=z
      .have tm:(z+x.Af.turn).tmod 4=(z+x.Af.turn) % 4:=Nj o_ 4;have g3:¬ z<0:=by omega
       simp[-getElem?_pos,-exists_and_left,-exists_and_right,-Z3,e1,e2,eb,E,ga,hx2,fA,k2,g1,g2,g3,hy2,hz2,gb,gc,tm,Kv]
       ((repeat' with_reducible apply And.intro)<;> try exact Ye);refine RA (r:=.bool true) (ns:=[iE (h.set b ((z+x.Af.turn) % 4))]) ?_ (hfit _ s_) ⟨true,_,rfl,rfl,s_,hr.set _ o_ o_,fun _=>oZ hy g1 o_⟩;simp[-getElem?_pos,-exists_and_left,-exists_and_right,-Z3,e1,e2,eb,E,ga,hx2,fA,k2,g1,g2,hy2,hz2,gb,gc,tm,Kv]
      .have g3:z<0:=by omega
       have g4:¬ 0<=y:=by omega
       simp[-getElem?_pos,-exists_and_left,-exists_and_right,-Z3,e1,e2,eb,E,ga,hx2,fA,k2,g1,g2,g3,g4,hy2,hz2,gb,gc]
       ((repeat' with_reducible apply And.intro)<;> try exact Ye);refine BD (AZ _) ⟨k+1,o_,by simp[e1,e2,eb,E]⟩ (by simp[E];omega)
     .have g4:0<=y:=by omega
      by_cases g2:0<=z
      .have g3:¬ z<0:=by omega
       simp[-getElem?_pos,-exists_and_left,-exists_and_right,-Z3,e1,e2,eb,E,ga,hx2,fA,k2,g1,g2,g3,g4,hy2,hz2,gb,gc]
       ((repeat' with_reducible apply And.intro)<;> try exact Ye);refine BD (AZ _) ⟨k+1,o_,by simp[e1,e2,eb,E]⟩ (by simp[E];omega)
      .have g3:z<0:=by omega
       have tm:(y+4-x.Af.turn).tmod 4=(y+4-x.Af.turn) % 4:=Nj o_ 4;simp[-getElem?_pos,-exists_and_left,-exists_and_right,-Z3,e1,e2,eb,E,ga,hx2,fA,k2,g1,g2,g3,g4,hy2,hz2,gb,gc,tm,Kv]
       ((repeat' with_reducible apply And.intro)<;> try exact Ye);refine RA (r:=.bool true) (ns:=[iE (h.set a ((y+4-x.Af.turn) % 4))]) ?_ (hfit _ s_) ⟨true,_,rfl,rfl,s_,hr.set _ o_ o_,fun _=>oZ hz g3 o_⟩;simp[-getElem?_pos,-exists_and_left,-exists_and_right,-Z3,e1,e2,eb,E,ga,hx2,fA,k2,g1,g2,hy2,hz2,gb,gc,tm,Kv]
    .simp[-getElem?_pos,-exists_and_left,-exists_and_right,-Z3,e1,e2,eb,E,ga,hx2,fA,k1,k2,hy2,gb]
     ((repeat' with_reducible apply And.intro)<;> try exact Ye);refine BD (AZ _) ⟨k+1,o_,by simp[e1,e2,eb,E]⟩ (by simp[E];omega)
  .obtain rfl:k=l.length:=by omega
   simp[-getElem?_pos,-exists_and_left,-exists_and_right,-Z3,e1,e2,eb,E];refine RA (r:=.bool false) (ns:=[iE h]) ?_ (hfit _ rfl) ⟨false,_,rfl,rfl,rfl,hr,s_⟩;simp[-getElem?_pos,-exists_and_left,-exists_and_right,-Z3,e1,e2,eb,E]
def Bp(p:AX):List AV:=[.int .i64 p.turn,.int .i64 p.x,.int .i64 p.y]
def zE(l:List AX):List (List AV):=l.map Bp
@[simp] theorem Zq8(l:List AX):(zE l).length=l.length:=by simp[zE]
theorem pF{l:List AX}{k:Nat}{x:AX}(h:l[k]? = some x):(zE l)[k]? = some (Bp x):=by simp[zE,h]
theorem Zi9(l:List AX)(k:Nat)(x:AX):(zE l).set k (Bp x)=zE (l.set k x):=by simp[zE,List.map_set]
def zP:AX:=⟨0,0,0⟩
theorem Zq7(n:Nat):Zk n [AV.int .i64 0,.int .i64 0,.int .i64 0]=zE (Zk n zP):=by simp[zE,Bp,zP]
@[simp] theorem ZsV :zE []=[]:=rfl
structure VP(z:AX):Prop where
 turn:0<=z.turn/\z.turn<=3
 x:-1000000<=z.x/\z.x<=1000000
 y:-1000000<=z.y/\z.y<=1000000
theorem fU :VP zP:=⟨by simp[zP],by simp[zP],by simp[zP]⟩
theorem Z6c(n:Int)(h:-1000000<=n/\n<=1000000):AF prog 195 [.int .i64 n] (fun r=>∃ m:Int,r=.int .i64 m/\0<=m/\m<=1000000):=by
 by_cases h1:n<0
 .refine BI func195 ntmps195 results195 ?_;simp[-getElem?_pos,-exists_and_left,-exists_and_right,-Z3,h1]
  ((repeat' with_reducible apply And.intro)<;> try exact Ye);refine Zr (r:=.int .i64 (-n)) ?_ rfl ⟨-n,rfl,o_,o_⟩;simp[-getElem?_pos,-exists_and_left,-exists_and_right,-Z3,h1]
 .refine BI func195 ntmps195 results195 ?_;simp[-getElem?_pos,-exists_and_left,-exists_and_right,-Z3,h1];refine Zr (r:=.int .i64 n) ?_ rfl ⟨n,rfl,o_,o_⟩;simp[-getElem?_pos,-exists_and_left,-exists_and_right,-Z3,h1]
theorem QD(p q:AX):AF prog 216 [.agg (Bp p),.agg (Bp q)] (fun r=>∃ (z:AX) (ok:Bool),r=.tup [.agg (Bp z),.bool ok]/\VP z):=by
 have hno:∃ (z:AX) (ok:Bool),AV.tup [.agg [.int .i64 0,.int .i64 0,.int .i64 0],.bool false]=.tup [.agg (Bp z),.bool ok]/\VP z:=⟨zP,false,rfl,fU⟩;have n1:=JB p.turn p.x p.y;have n2:=JB q.turn q.x q.y;cases h1:Yi p.turn p.x p.y
 .rw[h1]at n1;refine BI func216 ntmps216 results216 ?_;simp[-getElem?_pos,-exists_and_left,-exists_and_right,-Z3,Bp];refine Ah [] n1 ?_;simp[-getElem?_pos,-exists_and_left,-exists_and_right,-Z3];refine Zr ?_ rfl hno;simp[-getElem?_pos,-exists_and_left,-exists_and_right,-Z3]
 rw[h1]at n1;cases h2:Yi q.turn q.x q.y
 .rw[h2]at n2;refine BI func216 ntmps216 results216 ?_;simp[-getElem?_pos,-exists_and_left,-exists_and_right,-Z3,Bp];refine Ah [] n1 ?_;simp[-getElem?_pos,-exists_and_left,-exists_and_right,-Z3];refine Ah [] n2 ?_;simp[-getElem?_pos,-exists_and_left,-exists_and_right,-Z3];refine Zr ?_ rfl hno;simp[-getElem?_pos,-exists_and_left,-exists_and_right,-Z3]
 rw[h2]at n2;obtain⟨a1,a2,a3⟩:=JE.1 h1;obtain⟨b1,b2,b3⟩:=JE.1 h2;have n3:=Xx q.x q.y p.turn;have t4:(p.turn+q.turn).tmod 4=(p.turn+q.turn) % 4:=Nj o_ 4;refine BI func216 ntmps216 results216 ?_;simp[-getElem?_pos,-exists_and_left,-exists_and_right,-Z3,Bp];refine Ah [] n1 ?_;simp[-getElem?_pos,-exists_and_left,-exists_and_right,-Z3];refine Ah [] n2 ?_;simp[-getElem?_pos,-exists_and_left,-exists_and_right,-Z3];refine Zv [] n3 ?_;rintro _ ⟨a,b,rfl,c1,c2⟩;have n4:=JB ((p.turn+q.turn) % 4) (p.x+a) (p.y+b);cases h4:Yi ((p.turn+q.turn) % 4) (p.x+a) (p.y+b)
 .rw[h4]at n4;simp[-getElem?_pos,-exists_and_left,-exists_and_right,-Z3,t4]
  ((repeat' with_reducible apply And.intro)<;> try exact Ye);refine Ah [] n4 ?_;simp[-getElem?_pos,-exists_and_left,-exists_and_right,-Z3];refine Zr ?_ rfl hno;simp[-getElem?_pos,-exists_and_left,-exists_and_right,-Z3]
 .rw[h4]at n4;obtain⟨d1,d2,d3⟩:=JE.1 h4;simp[-getElem?_pos,-exists_and_left,-exists_and_right,-Z3,t4]
  ((repeat' with_reducible apply And.intro)<;> try exact Ye);refine Ah [] n4 ?_;simp[-getElem?_pos,-exists_and_left,-exists_and_right,-Z3];refine Zr (r:=.tup [.agg (Bp ⟨(p.turn+q.turn) % 4,p.x+a,p.y+b⟩),.bool true]) ?_ rfl ⟨_,true,rfl,d1,d2,d3⟩;simp[-getElem?_pos,-exists_and_left,-exists_and_right,-Z3,Bp]
theorem J3(p:AX):AF prog 217 [.agg (Bp p)] (fun r=>∃ z:AX,r=.agg (Bp z)/\VP z):=by
 have n1:=JB p.turn p.x p.y;cases h1:Yi p.turn p.x p.y
 .rw[h1]at n1;refine BI func217 ntmps217 results217 ?_;simp[-getElem?_pos,-exists_and_left,-exists_and_right,-Z3,Bp];refine Ah [] n1 ?_;simp[-getElem?_pos,-exists_and_left,-exists_and_right,-Z3];refine Zr (r:=.agg (Bp zP)) ?_ rfl ⟨zP,rfl,fU⟩;simp[-getElem?_pos,-exists_and_left,-exists_and_right,-Z3,Bp,zP]
 rw[h1]at n1;obtain⟨a1,a2,a3⟩:=JE.1 h1;have t4:(4-p.turn).tmod 4=(4-p.turn) % 4:=Nj o_ 4;have n3:=Xx (-p.x) (-p.y) ((4-p.turn) % 4);refine BI func217 ntmps217 results217 ?_;simp[-getElem?_pos,-exists_and_left,-exists_and_right,-Z3,Bp];refine Ah [] n1 ?_;simp[-getElem?_pos,-exists_and_left,-exists_and_right,-Z3,t4]
 ((repeat' with_reducible apply And.intro)<;> try exact Ye);refine Zv [] n3 ?_;rintro _ ⟨a,b,rfl,c1,c2⟩;simp[-getElem?_pos,-exists_and_left,-exists_and_right,-Z3,t4];refine Zr (r:=.agg (Bp ⟨(4-p.turn) % 4,a,b⟩)) ?_ rfl ⟨_,rfl,⟨by simp only;omega,by simp only;omega⟩,c1,c2⟩;simp[-getElem?_pos,-exists_and_left,-exists_and_right,-Z3,Bp]
theorem Z3A(l:List AX)(hl:l.length<=1000):AF prog 218 [.sl true 33 3 (zE l)] (fun r=>∃ (z:AX) (ok:Bool),r=.tup [.agg (Bp z),.bool ok]/\VP z):=by
 refine BI func218 ntmps218 results218 ?_;simp[-getElem?_pos,-exists_and_left,-exists_and_right,-Z3];refine ZF (fun σ=>∃ (k st:Nat) (p:AX),k<=l.length/\VP p/\σ.env 2=.ptr 2 0 0 0/\σ.box 2=some ⟨33,3,0,[[.int .i64 0,.int .i64 0,.int .i64 0]],false⟩/\σ.env 4=.ptr 4 st 0 0/\σ.box 4=some ⟨33,3,st,[Bp p],false⟩/\σ.env 9=.sl true 33 3 (zE l)/\σ.env 10=.int .i64 l.length/\σ.env 11=.int .i64 k) (fun σ=>1001-BU (σ.env 11)) (AZ _) ?_ ?_
 .exact⟨0,_,zP,Zs _,fU,s_,s_,by simp;rfl,by simp[Bp,zP],s_,s_,s_⟩
 .rintro σ ⟨k,st,p,hk,hp,e2,b2,e4,b4,e9,e10,e11⟩;by_cases ga:k<l.length
  .obtain⟨x,hx⟩:∃ x,l[k]? = some x:=⟨_,Z4 ga⟩;have hx2:=pF hx;have n1:=QD p x;simp[-getElem?_pos,-exists_and_left,-exists_and_right,-Z3,e2,b2,e4,b4,e9,e10,e11,ga,hx2,Bp];refine Zv [] n1 ?_;rintro _ ⟨z,ok,rfl,hz⟩;cases ok
   .simp[-getElem?_pos,-exists_and_left,-exists_and_right,-Z3,e2,b2,e4,b4,e9,e10,e11,ga,hx2,Bp];refine Zr (r:=.tup [.agg (Bp zP),.bool false]) ?_ rfl ⟨zP,false,rfl,fU⟩;simp[-getElem?_pos,-exists_and_left,-exists_and_right,-Z3,e2,b2,e4,b4,e9,e10,e11,Bp,zP]
   .simp[-getElem?_pos,-exists_and_left,-exists_and_right,-Z3,e2,b2,e4,b4,e9,e10,e11,ga,hx2,Bp]
    ((repeat' with_reducible apply And.intro)<;> try exact Ye);refine BD (AZ _) ⟨k+1,st,z,o_,hz,by simp[e2],by simp[b2],by simp[e4],by simp[b4,Bp],by simp[e9],by simp[e10],s_⟩ (by simp[e11];omega)
  .obtain rfl:k=l.length:=by omega
   simp[-getElem?_pos,-exists_and_left,-exists_and_right,-Z3,e2,b2,e4,b4,e9,e10,e11,Bp];refine Zr (r:=.tup [.agg (Bp p),.bool true]) ?_ rfl ⟨p,true,rfl,hp⟩;simp[-getElem?_pos,-exists_and_left,-exists_and_right,-Z3,e2,b2,e4,b4,e9,e10,e11,Bp]
def kS(l:List Bool):List (List AV):=l.map fun b=>[.bool b]
@[simp] theorem Zr3(l:List Bool):(kS l).length=l.length:=by simp[kS]
theorem VD{l:List Bool}{k:Nat}{x:Bool}(h:l[k]? = some x):(kS l)[k]? = some [.bool x]:=by simp[kS,h]
theorem ZjJ(l:List Bool)(k:Nat)(x:Bool):(kS l).set k [.bool x]=kS (l.set k x):=by simp[kS,List.map_set]
theorem Zr2(n:Nat):Zk n [AV.bool false]=kS (Zk n false):=by simp[kS]
theorem ZjI(l:List Bool)(x:Bool):kS l++[[.bool x]]=kS (l++[x]):=by simp[kS]
@[simp] theorem Zta :kS []=[]:=rfl
theorem ZrL(l:List Bool):(kS l).all (fun cs=>cs.all EL)=true:=by simp[kS,EL]
theorem ZrK(l:List AX):(zE l).all (fun cs=>cs.all EL)=true:=by simp[zE,Bp,EL]
def L8(l:List Bool):Nat:=l.countP fun x=>!x
theorem pG:∀ {h:List Bool} {k:Nat},h[k]? = some false->L8 (h.set k true)< L8 h
 |a::h,0,hk=>by
  simp only[Zw,Zi]at hk
  subst hk
  simp[-getElem?_pos,-exists_and_left,-exists_and_right,-Z3,L8,List.countP_cons]
 |a::h,k+1,hk=>by
  have:=pG (h:=h) (k:=k) (by simpa using hk)
  simp only[L8,List.set_cons_succ,List.countP_cons]at this ⊢
  omega
 |[],k,hk=>by simp at hk
def avB:List AV->Bool
 |[.bool b]=>b
 |_=>false
def ZsA:Option AY->Nat
 |some b=>L8 (b.els.map avB)
 |none=>0
theorem ZrH(l:List Bool):(kS l).map avB=l:=by
 unfold kS;rw[List.map_map];have:(avB ∘ fun x=>[AV.bool x])=id:=rfl;rw[this,List.map_id]
@[simp] theorem Zrj(T:TypeId)(sz c:Nat)(l:List Bool)(p:Bool):ZsA (some ⟨T,sz,c,kS l,p⟩)=L8 l:=by unfold ZsA;simp only;rw[ZrH]
theorem Z8u(l:List A7)(ns:List ByteArray)(at_:List AX)(h:List Bool)(hl:l.length<=100000)(hn:ns.length<=100000)(ha:at_.length=ns.length)(hh:h.length=ns.length)(hf:∀ f∈l,oL f)(hin:∀ f∈l,Q3 ns f.Z00=true/\(f.kind≠1->Q3 ns f.AL=true)):
  FE prog 225 [.sl true 35 8 (fE l),.sl true 9 1 (sE ns),.vw 100000 0,.vw 100001 0] [(33,3,zE at_),(4,1,kS h)] (fun r n=>∃ (b:Bool) (at':List AX) (h':List Bool),r=.bool b/\n=[zE at',kS h']/\at'.length=at_.length/\h'.length=h.length/\(b=true->L8 h'<L8 h)):=by
 have hu:∀ d∈[AV.sl true 35 8 (fE l),.sl true 9 1 (sE ns),.vw 100000 0,.vw 100001 0],okV (fun s=>s<1) d:=by simp[okV,Bu,G8]
 have hfit:∀ (a':List AX) (h':List Bool),a'.length=at_.length->h'.length=h.length->Kq [(33,3,zE at_),(4,1,kS h)] [zE a',kS h']=true:=fun a' h' q1 q2=>by simp only[Kq,Zq8,Zr3,q1,q2,ZrK,ZrL,beq_self_eq_true,Bool.and_true]
 refine Z37 M8 func225 rfl rfl ntmps225 results225 (by decide +kernel) rfl hu ?_;simp[-getElem?_pos,-exists_and_left,-exists_and_right,-Z3];refine ZF (fun σ=>∃ k:Nat,k<=l.length/\σ.env 1=.sl true 9 1 (sE ns)/\σ.env 2=.vw 100000 0/\σ.env 3=.vw 100001 0/\σ.box 100000=some ⟨33,3,0,zE at_,true⟩/\σ.box 100001=some ⟨4,1,0,kS h,true⟩/\σ.env 17=.sl true 35 8 (fE l)/\σ.env 18=.int .i64 l.length/\σ.env 19=.int .i64 k) (fun σ=>100001-BU (σ.env 19)) (AZ _) ?_ ?_
 .exact⟨0,Zs _,s_⟩
 .rintro σ ⟨k,hk,e1,e2,e3,ea,eb,E⟩;by_cases gk:k<l.length
  .obtain⟨x,hx⟩:∃ x,l[k]? = some x:=⟨_,Z4 gk⟩;have hx2:=RH hx;have ox:=hf x (Z6 hx);obtain⟨i1,i2⟩:=hin x (Z6 hx);have n1:=YD ns x.AL hn;have n2:=YD ns x.Z00 hn;simp[-getElem?_pos,-exists_and_left,-exists_and_right,-Z3,e1,e2,e3,ea,eb,E,gk,hx2,fA];refine Zv [] n1 ?_;rintro _ ⟨a,rfl,a1,a2,a3⟩;simp[-getElem?_pos,-exists_and_left,-exists_and_right,-Z3,e1,e2,e3,ea,eb,E,gk,hx2,fA];refine Zv [] n2 ?_;rintro _ ⟨b,rfl,b1,b2,b3⟩;obtain⟨b,rfl⟩:=Zl (b3 i1);have gb:b<h.length:=by omega
   have Gi:b<at_.length:=by omega
   obtain⟨y,hy⟩:∃ y,h[b]? = some y:=⟨_,Z4 gb⟩;obtain⟨p,hp⟩:∃ p,at_[b]? = some p:=⟨_,Z4 Gi⟩;have hy2:=VD hy;have hp2:=pF hp;by_cases k1:x.kind=1
   .cases y
    .simp[-getElem?_pos,-exists_and_left,-exists_and_right,-Z3,e1,e2,e3,ea,eb,E,gk,hx2,fA,k1,hy2,hp2,gb,Gi,Bp];refine RA (r:=.bool true) (ns:=[zE (at_.set b x.Af),kS (h.set b true)]) ?_ (hfit _ _ s_ s_) ⟨true,_,_,rfl,rfl,s_,s_,fun _=>pG hy⟩;simp[-getElem?_pos,-exists_and_left,-exists_and_right,-Z3,e1,e2,e3,ea,eb,E,gk,hx2,fA,k1,hy2,hp2,gb,Gi,<- Zi9,<- ZjJ,Bp]
    .simp[-getElem?_pos,-exists_and_left,-exists_and_right,-Z3,e1,e2,e3,ea,eb,E,gk,hx2,fA,k1,hy2,hp2,gb,Gi]
     ((repeat' with_reducible apply And.intro)<;> try exact Ye);refine BD (AZ _) ⟨k+1,o_,by simp[e1,e2,e3,ea,eb,E]⟩ (by simp[E];omega)
   .by_cases k2:x.kind=2
    .obtain⟨a,rfl⟩:=Zl (a3 (i2 k1));have gc:a<h.length:=by omega
     have Mc:a<at_.length:=by omega
     obtain⟨z,hz⟩:∃ z,h[a]? = some z:=⟨_,Z4 gc⟩;obtain⟨q,hq⟩:∃ q,at_[a]? = some q:=⟨_,Z4 Mc⟩;have hz2:=VD hz;have hq2:=pF hq;cases z<;>cases y
     .simp[-getElem?_pos,-exists_and_left,-exists_and_right,-Z3,e1,e2,e3,ea,eb,E,gk,hx2,fA,k2,hy2,hp2,gb,Gi,hz2,hq2,gc,Mc,Bp]
      ((repeat' with_reducible apply And.intro)<;> try exact Ye);refine BD (AZ _) ⟨k+1,o_,by simp[e1,e2,e3,ea,eb,E]⟩ (by simp[E];omega)
     .have n3:=J3 x.Af;simp[-getElem?_pos,-exists_and_left,-exists_and_right,-Z3,e1,e2,e3,ea,eb,E,gk,hx2,fA,k2,hy2,hp2,gb,Gi,hz2,hq2,gc,Mc,Bp];refine Zv [] n3 ?_;rintro _ ⟨iv,rfl,_⟩;have n4:=QD p iv;simp[-getElem?_pos,-exists_and_left,-exists_and_right,-Z3,e1,e2,e3,ea,eb,E,gk,hx2,fA,k2,hy2,hp2,gb,Gi,hz2,hq2,gc,Mc,Bp];refine Zv [] n4 ?_;rintro _ ⟨w,ok,rfl,_⟩;cases ok
      .simp[-getElem?_pos,-exists_and_left,-exists_and_right,-Z3,e1,e2,e3,ea,eb,E,gk,hx2,fA,k2,hy2,hp2,gb,Gi,hz2,hq2,gc,Mc,Bp]
       ((repeat' with_reducible apply And.intro)<;> try exact Ye);refine BD (AZ _) ⟨k+1,o_,by simp[e1,e2,e3,ea,eb,E]⟩ (by simp[E];omega)
      .simp[-getElem?_pos,-exists_and_left,-exists_and_right,-Z3,e1,e2,e3,ea,eb,E,gk,hx2,fA,k2,hy2,hp2,gb,Gi,hz2,hq2,gc,Mc,Bp]
       ((repeat' with_reducible apply And.intro)<;> try exact Ye);refine RA (r:=.bool true) (ns:=[zE (at_.set a w),kS (h.set a true)]) ?_ (hfit _ _ s_ s_) ⟨true,_,_,rfl,rfl,s_,s_,fun _=>pG hz⟩;simp[-getElem?_pos,-exists_and_left,-exists_and_right,-Z3,e1,e2,e3,ea,eb,E,gk,hx2,fA,k2,hy2,hp2,gb,Gi,hz2,hq2,gc,Mc,<- Zi9,<- ZjJ,Bp]
     .have n4:=QD q x.Af;simp[-getElem?_pos,-exists_and_left,-exists_and_right,-Z3,e1,e2,e3,ea,eb,E,gk,hx2,fA,k2,hy2,hp2,gb,Gi,hz2,hq2,gc,Mc,Bp];refine Zv [] n4 ?_;rintro _ ⟨w,ok,rfl,_⟩;cases ok
      .simp[-getElem?_pos,-exists_and_left,-exists_and_right,-Z3,e1,e2,e3,ea,eb,E,gk,hx2,fA,k2,hy2,hp2,gb,Gi,hz2,hq2,gc,Mc,Bp]
       ((repeat' with_reducible apply And.intro)<;> try exact Ye);refine BD (AZ _) ⟨k+1,o_,by simp[e1,e2,e3,ea,eb,E]⟩ (by simp[E];omega)
      .simp[-getElem?_pos,-exists_and_left,-exists_and_right,-Z3,e1,e2,e3,ea,eb,E,gk,hx2,fA,k2,hy2,hp2,gb,Gi,hz2,hq2,gc,Mc,Bp]
       ((repeat' with_reducible apply And.intro)<;> try exact Ye);refine RA (r:=.bool true) (ns:=[zE (at_.set b w),kS (h.set b true)]) ?_ (hfit _ _ s_ s_) ⟨true,_,_,rfl,rfl,s_,s_,fun _=>pG hy⟩;simp[-getElem?_pos,-exists_and_left,-exists_and_right,-Z3,e1,e2,e3,ea,eb,E,gk,hx2,fA,k2,hy2,hp2,gb,Gi,hz2,hq2,gc,Mc,<- Zi9,<- ZjJ,Bp]
     .simp[-getElem?_pos,-exists_and_left,-exists_and_right,-Z3,e1,e2,e3,ea,eb,E,gk,hx2,fA,k2,hy2,hp2,gb,Gi,hz2,hq2,gc,Mc,Bp]
      ((repeat' with_reducible apply And.intro)<;> try exact Ye);refine BD (AZ _) ⟨k+1,o_,by simp[e1,e2,e3,ea,eb,E]⟩ (by simp[E];omega)
    .simp[-getElem?_pos,-exists_and_left,-exists_and_right,-Z3,e1,e2,e3,ea,eb,E,gk,hx2,fA,k1,k2,hy2,hp2,gb,Gi]
     ((repeat' with_reducible apply And.intro)<;> try exact Ye);refine BD (AZ _) ⟨k+1,o_,by simp[e1,e2,e3,ea,eb,E]⟩ (by simp[E];omega)
  .obtain rfl:k=l.length:=by omega
   simp[-getElem?_pos,-exists_and_left,-exists_and_right,-Z3,e1,e2,e3,ea,eb,E];refine RA (r:=.bool false) (ns:=[zE at_,kS h]) ?_ (hfit _ _ rfl rfl) ⟨false,_,_,rfl,rfl,rfl,rfl,s_⟩;simp[-getElem?_pos,-exists_and_left,-exists_and_right,-Z3,e1,e2,e3,ea,eb,E]
theorem Z2R(l:List A7)(hs:K3 l):AF prog 224 [.sl true 35 8 (fE l)] (fun r=>∃ (a:List AX) (k:List Bool),r=.tup [.sl false 33 3 (zE a),.sl false 4 1 (kS k)]/\a.length=k.length/\k.length<=10):=by
 have n0:=YU l hs;cases hf:YW l
 .rw[hf]at n0;refine BI func224 ntmps224 results224 ?_;simp[-getElem?_pos,-exists_and_left,-exists_and_right,-Z3];refine Ah [] n0 ?_;simp[-getElem?_pos,-exists_and_left,-exists_and_right,-Z3];refine Zr (r:=.tup [.sl false 33 3 (zE []),.sl false 4 1 (kS [])]) ?_ rfl ⟨[],[],rfl,rfl,s_⟩;simp[-getElem?_pos,-exists_and_left,-exists_and_right,-Z3]
 .rw[hf]at n0;obtain⟨h1,h2,h3⟩:=X5 hf;have n1:=Vx l hs;have hnm:=Z8h l [];refine BI func224 ntmps224 results224 ?_;simp[-getElem?_pos,-exists_and_left,-exists_and_right,-Z3];refine Ah [] n0 ?_;simp[-getElem?_pos,-exists_and_left,-exists_and_right,-Z3];refine Ah [] n1 ?_;simp[-getElem?_pos,-exists_and_left,-exists_and_right,-Z3,Zq7,Zr2]
  ((repeat' with_reducible apply And.intro)<;> try exact Ye);refine ZF (fun σ=>∃ (pI Ip FV:Nat) (a:List AX) (k:List Bool),a.length=(Yk l).length/\k.length=(Yk l).length/\σ.env 0=.sl true 35 8 (fE l)/\σ.env 4=.vw 11 pI/\σ.box 11=some ⟨9,1,pI,sE (Yk l),true⟩/\σ.env 5=.vw 14 Ip/\σ.box 14=some ⟨33,3,Ip,zE a,true⟩/\σ.env 6=.vw 17 FV/\σ.box 17=some ⟨4,1,FV,kS k,true⟩) (fun σ=>ZsA (σ.box 17)) (AZ _) ?_ ?_
  .exact⟨_,_,_,Zk (Yk l).length zP,Zk (Yk l).length false,s_,s_,s_,by simp;rfl,s_,by simp;rfl,s_,by simp;rfl,s_⟩
  .rintro σ ⟨pI,Ip,FV,a,k,ha,hk,E⟩;have n2:=Z8u l (Yk l) a k o_ o_ ha hk h2 (fun f hf=>⟨((hnm f hf).2 (h2 f hf).Z00),fun hne=>(hnm f hf).1 ((h2 f hf).AL hne)⟩);simp[-getElem?_pos,-exists_and_left,-exists_and_right,-Z3,E];refine ZdL [14,17] n2 ?_;rintro r n ⟨b,a',k',rfl,rfl,ha',hk',hb⟩;cases b
   .simp[-getElem?_pos,-exists_and_left,-exists_and_right,-Z3,E];refine Zr (r:=.tup [.sl false 33 3 (zE a'),.sl false 4 1 (kS k')]) ?_ rfl ⟨a',k',rfl,o_,o_⟩;simp[-getElem?_pos,-exists_and_left,-exists_and_right,-Z3,E];exact⟨none,s_⟩
   .have hb:=hb rfl;simp[-getElem?_pos,-exists_and_left,-exists_and_right,-Z3,E];refine BD (AZ _) ⟨pI,Ip,FV,a',k',o_,o_,by simp[E]⟩ (by simp;exact hb)
theorem fV{s:ByteArray}{b:Int}(h:Xe s b=true):s.size<=4194304:=by
 unfold Xe FH at h;simp only[Zc,decide_eq_true_eq]at h;omega
theorem ZdQ{f:A7}(h:Zy f=true):f.AL.size<=4194304/\f.Z00.size<=4194304:=by
 unfold Zy Mi at h;simp only[Zc]at h;obtain⟨h1,h2,h3,h4⟩:=h;split at h4
 .simp only[Zc]at h4;refine⟨?_,fV h4.2⟩;have:=h4.1;rw[ByteArray.toList_eq]at this;have h5:f.AL.data.size=0:=by rw[<- Array.length_toList,List.isEmpty_iff.1 this];rfl
  have:f.AL.size=0:=h5;omega
 .split at h4
  .simp only[Zc]at h4;exact⟨fV h4.1,fV h4.2.1⟩
  .split at h4
   .simp only[Zc]at h4;exact⟨fV h4.1,fV h4.2.1⟩
   .cases h4
theorem ZfQ(h:YW l=true):∀ f∈l,Zy f=true:=by
 unfold YW at h;simp only[Zc,decide_eq_true_eq]at h;exact ZbO h.2.1
theorem VE(h:YW l=true):K3 l:=⟨by have:=(X5 h).1;omega,fun f hf=>ZdQ (ZfQ h f hf)⟩
theorem ZjT(h:YW l=true):∀ f∈l,Q3 (Yk l) f.Z00=true/\(f.kind≠1->Q3 (Yk l) f.AL=true):=fun f hf=>by
 have h2:=(X5 h).2.1 f hf
 have h3:=Z8h l [] f hf
 exact⟨h3.2 h2.Z00,fun hne=>h3.1 (h2.AL hne)⟩
theorem Zsy(k:Nat):iE (Zk k (-1))++[[.int .i64 (-1)]]=iE (Zk (k+1) (-1)):=by rw[QH,<- List.replicate_succ']
theorem Znh(k:Nat):I8 (Zk k (-1)):=fun x hx=>by rw[List.eq_of_mem_replicate hx];omega
theorem Z0D(l:List A7)(hs:K3 l):AF prog 132 [.sl true 35 8 (fE l)] (fun r=>∃ h:List Int,r=.sl false 3 1 (iE h)/\I8 h/\h.length<=10/\(YW l=true->h.length=(Yk l).length)):=by
 have n0:=YU l hs;cases hf:YW l
 .rw[hf]at n0;refine BI func132 ntmps132 results132 ?_;simp[-getElem?_pos,-exists_and_left,-exists_and_right];refine Ah [] n0 ?_;simp[-getElem?_pos,-exists_and_left,-exists_and_right];refine Zr (r:=.sl false 3 1 (iE [])) ?_ rfl ⟨[],rfl,fun x hx=>by simp at hx,s_⟩;simp[-getElem?_pos,-exists_and_left,-exists_and_right]
 .rw[hf]at n0;obtain⟨h1,h2,h3⟩:=X5 hf;have n1:=Vx l hs;refine BI func132 ntmps132 results132 ?_;simp[-getElem?_pos,-exists_and_left,-exists_and_right];refine Ah [] n0 ?_;simp[-getElem?_pos,-exists_and_left,-exists_and_right];refine Ah [] n1 ?_;simp[-getElem?_pos,-exists_and_left,-exists_and_right];refine ZF (fun σ=>∃ k s9 s4:Nat,k<=(Yk l).length/\σ.env 0=.sl true 35 8 (fE l)/\σ.env 3=.vw 9 s9/\σ.box 9=some ⟨9,1,s9,sE (Yk l),true⟩/\σ.env 4=.vw 10 s4/\σ.box 10=some ⟨3,1,s4,iE (Zk k (-1)),true⟩/\σ.env 12=.int .i64 (Yk l).length/\σ.env 13=.int .i64 k) (fun σ=>11-BU (σ.env 13)) (AZ _) ?_ ?_
  .exact⟨0,_,_,Zs _,s_,by simp;rfl,s_,by simp;rfl,s_⟩
  .rintro σ ⟨k,s9,s4,hk,e0,e3,b9,e4,b10,e12,e13⟩;by_cases gk:k <(Yk l).length
   .have hn:=Zsy k;have hlen:(iE (Zk k (-1))).length=k:=by simp
    generalize iE (Zk k (-1))=E0 at *
    simp[-getElem?_pos,-exists_and_left,-exists_and_right,e0,e3,b9,e4,b10,e12,e13,gk,hlen]
    ((repeat' with_reducible apply And.intro)<;> try exact Ye);refine BD (AZ _) ⟨k+1,s9,_,o_,by simp[e0],by simp[e3],by simp[b9],by simp;rfl,by simp[hn,e12]⟩ (by simp[e13];omega)
   .obtain rfl:k=(Yk l).length:=by omega
    simp[-getElem?_pos,-exists_and_left,-exists_and_right,e0,e3,b9,e4,b10,e12,e13];refine ZF (fun σ=>∃ (s9 s4:Nat) (h:List Int),h.length=(Yk l).length/\I8 h/\σ.env 0=.sl true 35 8 (fE l)/\σ.env 3=.vw 9 s9/\σ.box 9=some ⟨9,1,s9,sE (Yk l),true⟩/\σ.env 4=.vw 10 s4/\σ.box 10=some ⟨3,1,s4,iE h,true⟩) (fun σ=>Zsr (σ.box 10)) (AZ _) ?_ ?_
    .exact⟨s9,s4,Zk (Yk l).length (-1),s_,Znh _,by simp[e0,e3,b9,e4,b10]⟩
    .rintro σ ⟨s9,s4,h,hh,hd,E⟩;have n2:=Z4x l (Yk l) h o_ o_ hh h2 (ZjT hf) hd;simp[-getElem?_pos,-exists_and_left,-exists_and_right,E];refine ZdL [10] n2 ?_;rintro r n ⟨b,h',rfl,rfl,hh',hd',hb⟩;cases b
     .simp[-getElem?_pos,-exists_and_left,-exists_and_right,E];refine Zr (r:=.sl false 3 1 (iE h')) ?_ rfl ⟨h',rfl,hd',o_,o_⟩;simp[-getElem?_pos,-exists_and_left,-exists_and_right,E];exact⟨none,s_⟩
     .have hb:=hb rfl;simp[-getElem?_pos,-exists_and_left,-exists_and_right,E];refine BD (AZ _) ⟨s9,s4,h',o_,hd',by simp[E]⟩ (by simp;exact hb)
theorem Z6V(l:List A7)(hf:YW l=true)(s:ByteArray):AF prog 149 [.sl true 35 8 (fE l),.str s] (fun r=>∃ n:Int,r=.int .i64 n/\-1<=n/\n<=3):=by
 have hs:=VE hf;obtain⟨h1,h2,h3⟩:=X5 hf;have n0:=Z0D l hs;have n1:=Vx l hs;have n2:=YD (Yk l) s o_;refine BI func149 ntmps149 results149 ?_;simp[-getElem?_pos,-exists_and_left,-exists_and_right];refine Zv [] n0 ?_;rintro _ ⟨h,rfl,hd,hl,he⟩;have he:=he hf;simp[-getElem?_pos,-exists_and_left,-exists_and_right];refine Ah [] n1 ?_;simp[-getElem?_pos,-exists_and_left,-exists_and_right];refine Zv [] n2 ?_;rintro _ ⟨a,rfl,a1,a2,_⟩;by_cases g1:a<0
 .simp[-getElem?_pos,-exists_and_left,-exists_and_right,g1];refine Zr (r:=.int .i64 (-1)) ?_ rfl ⟨-1,rfl,o_,o_⟩;simp[-getElem?_pos,-exists_and_left,-exists_and_right,g1]
 .obtain⟨a,rfl⟩:=Zl (show 0<=a by omega);have ga:a<h.length:=by omega
  have U8:(h.length<=a)=False:=eq_false o_;obtain⟨y,hy⟩:∃ y,h[a]? = some y:=⟨_,Z4 ga⟩;have hy2:=Yu hy;obtain⟨y1,y2⟩:=hd y (Z6 hy);simp[-getElem?_pos,-exists_and_left,-exists_and_right,g1,ga,U8,hy2];refine Zr (r:=.int .i64 y) ?_ rfl ⟨y,rfl,y1,y2⟩;simp[-getElem?_pos,-exists_and_left,-exists_and_right,g1,ga,U8,hy2]
theorem Z1f(l:List A7)(hf:YW l=true):AF prog 93 [.sl true 35 8 (fE l)] (fun r=>∃ ids:List Int,r=.sl false 3 1 (iE ids)/\ids.length<=40):=by
 have hs:=VE hf;obtain⟨h1,h2,h3⟩:=X5 hf;have n0:=YU l hs;rw[hf]at n0;have n1:=Vx l hs;have n2:=Z0D l hs;refine BI func93 ntmps93 results93 ?_;simp[-getElem?_pos,-exists_and_left,-exists_and_right];refine Ah [] n0 ?_;simp[-getElem?_pos,-exists_and_left,-exists_and_right];refine Ah [] n1 ?_;simp[-getElem?_pos,-exists_and_left,-exists_and_right];refine Zv [] n2 ?_;rintro _ ⟨h,rfl,hd,hl,he⟩;have he:=he hf;simp[-getElem?_pos,-exists_and_left,-exists_and_right];refine ZF (fun σ=>∃ (k s3 s5:Nat) (ids:List Int),k<=l.length/\ids.length<=k/\σ.env 3=.vw 14 s3/\σ.box 14=some ⟨9,1,s3,sE (Yk l),true⟩/\σ.env 4=.sl false 3 1 (iE h)/\σ.env 5=.vw 17 s5/\σ.box 17=some ⟨3,1,s5,iE ids,true⟩/\σ.env 18=.sl true 35 8 (fE l)/\σ.env 19=.int .i64 l.length/\σ.env 20=.int .i64 k) (fun σ=>41-BU (σ.env 20)) (AZ _) ?_ ?_
 .exact⟨0,_,_,[],Zs _,s_,by simp;rfl,s_,s_,by simp;rfl,s_⟩
 .rintro σ ⟨k,s3,s5,ids,hk,hi,E⟩;by_cases gk:k<l.length
  .obtain⟨x,hx⟩:∃ x,l[k]? = some x:=⟨_,Z4 gk⟩;have hx2:=RH hx;have ox:=h2 x (Z6 hx);obtain⟨i1,i2⟩:=ZjT hf x (Z6 hx);have n3:=YD (Yk l) x.AL o_;have n4:=YD (Yk l) x.Z00 o_;obtain⟨t1,t2⟩:=ox.turn;have hn:=QH ids x.id;simp[-getElem?_pos,-exists_and_left,-exists_and_right,E,gk,hx2,fA];refine Zv [] n4 ?_;rintro _ ⟨b,rfl,b1,b2,b3⟩;obtain⟨b,rfl⟩:=Zl (b3 i1);have gb:b<h.length:=by omega
   obtain⟨y,hy⟩:∃ y,h[b]? = some y:=⟨_,Z4 gb⟩;have hy2:=Yu hy;obtain⟨y1,y2⟩:=hd y (Z6 hy);by_cases g3:x.kind=3∨y<0
   .by_cases k3:x.kind=3
    .simp[-getElem?_pos,-exists_and_left,-exists_and_right,E,gk,hx2,fA,k3,hy2,gb]
     ((repeat' with_reducible apply And.intro)<;> try exact Ye);refine BD (AZ _) ⟨k+1,s3,s5,ids,o_,o_,by simp[E]⟩ (by simp[E];omega)
    .have g4:y<0:=by omega
     simp[-getElem?_pos,-exists_and_left,-exists_and_right,E,gk,hx2,fA,k3,g4,hy2,gb]
     ((repeat' with_reducible apply And.intro)<;> try exact Ye);refine BD (AZ _) ⟨k+1,s3,s5,ids,o_,o_,by simp[E]⟩ (by simp[E];omega)
   .have k3:¬ x.kind=3:=fun h=>g3 (.inl h)
    have g4:¬ y<0:=fun h=>g3 (.inr h)
    by_cases k1:x.kind=1
    .have tm:x.Af.turn.tmod 4=x.Af.turn:=by rw[Nj t1 4];omega
     by_cases g5:x.Af.turn=y
     .have tmy:y.tmod 4=y:=g5▸tm;simp[-getElem?_pos,-exists_and_left,-exists_and_right,E,gk,hx2,fA,k1,k3,g4,hy2,gb,g5,tmy]
      ((repeat' with_reducible apply And.intro)<;> try exact Ye);refine BD (AZ _) ⟨k+1,s3,s5,ids,o_,o_,by simp[E]⟩ (by simp[E];omega)
     .simp[-getElem?_pos,-exists_and_left,-exists_and_right,E,gk,hx2,fA,k1,k3,g4,hy2,gb,g5,tm]
      ((repeat' with_reducible apply And.intro)<;> try exact Ye);refine BD (AZ _) ⟨k+1,s3,_,ids++[x.id],o_,AR,by simp[E],by simp[E],by simp[E],by simp;rfl,by simp[hn,E]⟩ (by simp[E];omega)
    .simp[-getElem?_pos,-exists_and_left,-exists_and_right,E,gk,hx2,fA,k1,k3,g4,hy2,gb];refine Zv [] n3 ?_;rintro _ ⟨a,rfl,a1,a2,a3⟩;obtain⟨a,rfl⟩:=Zl (a3 (i2 k1));have gc:a<h.length:=by omega
     obtain⟨z,hz⟩:∃ z,h[a]? = some z:=⟨_,Z4 gc⟩;have hz2:=Yu hz;obtain⟨z1,z2⟩:=hd z (Z6 hz);by_cases g6:0<=z
     .have tm:(z+x.Af.turn).tmod 4=(z+x.Af.turn) % 4:=Nj o_ 4;by_cases g7:(z+x.Af.turn) % 4=y
      .simp[-getElem?_pos,-exists_and_left,-exists_and_right,E,gk,hx2,fA,k1,k3,g4,hy2,gb,hz2,gc,g6,tm,g7]
       ((repeat' with_reducible apply And.intro)<;> try exact Ye);refine BD (AZ _) ⟨k+1,s3,s5,ids,o_,o_,by simp[E]⟩ (by simp[E];omega)
      .simp[-getElem?_pos,-exists_and_left,-exists_and_right,E,gk,hx2,fA,k1,k3,g4,hy2,gb,hz2,gc,g6,tm,g7]
       ((repeat' with_reducible apply And.intro)<;> try exact Ye);refine BD (AZ _) ⟨k+1,s3,_,ids++[x.id],o_,AR,by simp[E],by simp[E],by simp[E],by simp;rfl,by simp[hn,E]⟩ (by simp[E];omega)
     .simp[-getElem?_pos,-exists_and_left,-exists_and_right,E,gk,hx2,fA,k1,k3,g4,hy2,gb,hz2,gc,g6]
      ((repeat' with_reducible apply And.intro)<;> try exact Ye);refine BD (AZ _) ⟨k+1,s3,s5,ids,o_,o_,by simp[E]⟩ (by simp[E];omega)
  .obtain rfl:k=l.length:=by omega
   simp[-getElem?_pos,-exists_and_left,-exists_and_right,E];refine Zr (r:=.sl false 3 1 (iE ids)) ?_ rfl ⟨ids,rfl,o_⟩;simp[-getElem?_pos,-exists_and_left,-exists_and_right,E];exact⟨none,s_⟩
theorem Zhd{ls:List Lk}{v:Int}(h:v∈TY ls):1<=v/\v<=9:=by
 have:=(List.mem_filter.1 h).1;simp only[List.mem_cons,List.not_mem_nil,or_false]at this;omega
theorem Z8e(ls:List Lk):(TY ls).length<=9:=Nat.le_trans (List.length_filter_le _ _) s_
theorem Zk9{l:List Nat}{box:Nat->Option AY}:∀ {cs:List AV},cs.all Dj=true->cs.map (Ks l box)=cs
 |[],_=>rfl
 |d::cs,h=>by
  simp only[List.all_cons,Zc]at h
  rw[List.map_cons,Zk9 h.2]
  congr 1
  have h1:=h.1
  cases d<;>first|rfl|cases h1
theorem pJ(l:List Nat)(box:Nat->Option AY)(bs:List Bool):(bE bs).map (Ks l box)=bE bs:=Zk9 (RJ bs)
def Ztk:AV->Nat
 |.sl _ _ _ els=>els.length
 |_=>0
@[simp] theorem ZsL(ns:Bool)(E:TypeId)(sz:Nat)(els:List (List AV)):Ztk (.sl ns E sz els)=els.length:=rfl
theorem Z1X(ls:List Lk)(hs:Dn ls)(last:List Int)(hla:last.length<=1000):AF prog 86 [.sl true 186 11 (kE ls),.sl true 3 1 (iE last)] (fun r=>∃ o:List Int,o.length<=9/\(∀ v∈o,1<=v/\v<=9)/\r=.own 3 1 (iE o)):=by
 have n0:=ZjQ ls hs;have n1:=Zbz ls hs;have n2:=Z31 ls (by have:=hs.len;omega);have nb:∀ v∈TY ls,1<=v/\v<=9:=fun v h=>Zhd h
 have nl:=Z8e ls;generalize TY ls=nodes at *
 refine BI func86 ntmps86 results86 ?_;simp[-getElem?_pos,-exists_and_left,-exists_and_right];refine Ah [] n0 ?_;simp[-getElem?_pos,-exists_and_left,-exists_and_right];refine Zv [] n1 ?_;rintro _ ⟨bs,hbs,rfl⟩;simp[-getElem?_pos,-exists_and_left,-exists_and_right,-Xo,Zof,Md,RJ,Pp,hbs];refine Ah [] n2 ?_;simp[-getElem?_pos,-exists_and_left,-exists_and_right];have tz:List.drop 100 (bE (zB 100))=[]:=List.drop_eq_nil_of_le (by simp[Md]);refine ZF (fun σ=>∃ (rest o:List Int) (bs:List Bool) (st s5:Nat),rest.length+o.length<=9/\(∀ v∈rest,1<=v/\v<=9)/\(∀ v∈o,1<=v/\v<=9)/\bs.length=100/\σ.env 1=.sl true 3 1 (iE last)/\σ.env 5=.ptr 5 s5 0 0/\σ.box 5=some ⟨197,100,s5,[bE bs],false⟩/\σ.env 6=.sl false 3 1 (iE rest)/\σ.env 7=.vw 21 st/\σ.box 21=some ⟨3,1,st,iE o,true⟩) (fun σ=>Ztk (σ.env 6)) (Wk.DT _ [20]) ?_ ?_
 .exact⟨nodes,[],bs,_,_,by simpa using nl,nb,s_,hbs,s_,by simp;rfl,by simp[tz,pJ],s_,by simp;rfl,s_⟩
 clear hbs n0 n1 n2 nb nl tz bs nodes
 .rintro σ ⟨rest,o,bs,st,s5,hlen,hr,ho,hbs,e1,e5,b5,e6,e7,Ky⟩;by_cases ga:0<rest.length
  .have U8:(0:Int)< rest.length:=by omega
   simp[-getElem?_pos,-exists_and_left,-exists_and_right,e1,e5,b5,e6,e7,Ky,ga,U8];refine Ec (fun σ=>∃ (k s8:Nat) (ch:List Int),k<=rest.length/\ch.length<=k/\(∀ v∈ch,v∈rest)/\σ.env 1=.sl true 3 1 (iE last)/\σ.env 5=.ptr 5 s5 0 0/\σ.box 5=some ⟨197,100,s5,[bE bs],false⟩/\σ.env 6=.sl false 3 1 (iE rest)/\σ.env 7=.vw 21 st/\σ.box 21=some ⟨3,1,st,iE o,true⟩/\σ.env 8=.vw 25 s8/\σ.box 25=some ⟨3,1,s8,iE ch,true⟩/\σ.env 26=.sl false 3 1 (iE rest)/\σ.env 27=.int .i64 rest.length/\σ.env 28=.int .i64 k) (fun σ=>10-BU (σ.env 28)) ?_ ?_
   .exact⟨0,_,[],o_,s_,s_,by simp[e1],by simp[e5],by simp[b5],by simp[e6],by simp[e7],by simp[Ky],by simp;rfl,s_⟩
   clear e1 e5 b5 e6 e7 Ky
   .rintro σ2 ⟨k,s8,ch,hk,hcl,hch,e1,e5,b5,e6,e7,Ky,e8,U9,e26,e27,e28⟩;by_cases gb:k<rest.length
    .obtain⟨x,hx⟩:∃ x,rest[k]? = some x:=⟨_,Z4 gb⟩;have hx2:=Yu hx;have hm:=Z6 hx;have n1:=Q5 last x o_;cases hc:decide (x∈last)
     .rw[hc]at n1;simp[-getElem?_pos,-exists_and_left,-exists_and_right,e1,e5,b5,e6,e7,Ky,e8,U9,e26,e27,e28,gb,hx2];refine Ah [] n1 ?_;simp[-getElem?_pos,-exists_and_left,-exists_and_right,e1,e5,b5,e6,e7,Ky,e8,U9,e26,e27,e28,gb,hx2,QH]
      ((repeat' with_reducible apply And.intro)<;> try exact Ye)
      exact⟨k+1,_,ch++[x],o_,AR,fun v hv=>by
       rcases List.mem_append.1 hv with h|h
       .exact hch v h
       .rw[List.mem_singleton.1 h];exact hm,rfl,⟨rfl,rfl⟩,o_⟩
     .rw[hc]at n1;simp[-getElem?_pos,-exists_and_left,-exists_and_right,e1,e5,b5,e6,e7,Ky,e8,U9,e26,e27,e28,gb,hx2];refine Ah [] n1 ?_;simp[-getElem?_pos,-exists_and_left,-exists_and_right,e1,e5,b5,e6,e7,Ky,e8,U9,e26,e27,e28,gb,hx2]
      ((repeat' with_reducible apply And.intro)<;> try exact Ye);exact⟨k+1,s8,ch,o_,o_,hch,rfl,⟨rfl,rfl⟩,o_⟩
    .obtain rfl:k=rest.length:=by omega
     obtain⟨r0,hr0⟩:∃ r0,rest[0]? = some r0:=⟨_,Z4 ga⟩;have hr2:=Yu hr0;have hm0:=Z6 hr0
     obtain⟨c0,hc1⟩:∃ c0:Int,ch.length≠0->(iE ch)[0]? = some [.int .i64 c0]/\c0∈rest:=by
      cases ch with
      |nil=>exact⟨0,fun h=>absurd rfl h⟩
      |cons c l=>exact⟨c,fun _=>⟨rfl,hch c s_⟩⟩
     have hc2:=fun h=>(hc1 h).1
     have hc3:=fun h=>(hc1 h).2
     by_cases hc0:ch.length=0;all_goals simp[-getElem?_pos,-exists_and_left,-exists_and_right,e1,e5,b5,e6,e7,Ky,e8,U9,e26,e27,e28,ga,hr2,hc0,hc2]
     all_goals try (refine⟨o_,?_⟩)
     all_goals refine ZF (fun σ=>∃ (k:Nat) (Ex:Int) (E:List Int),k<=E.length/\E.length<=9/\Ex∈rest/\(∀ v∈E,v∈rest)/\σ.env 1=.sl true 3 1 (iE last)/\σ.env 5=.ptr 5 s5 0 0/\σ.box 5=some ⟨197,100,s5,[bE bs],false⟩/\σ.env 6=.sl false 3 1 (iE rest)/\σ.env 7=.vw 21 st/\σ.box 21=some ⟨3,1,st,iE o,true⟩/\σ.env 11=.int .i64 Ex/\σ.env 48=.sl false 3 1 (iE E)/\σ.env 49=.int .i64 E.length/\σ.env 50=.int .i64 k) (fun σ=>10-BU (σ.env 50)) (Wk.DT _ [25]) ?_ ?_
     .exact⟨0,r0,rest,o_,o_,hm0,fun v h=>h,by simp[e1,e5,b5,pJ,e6,e7,Ky]⟩
     rotate_left
     .exact⟨0,c0,ch,o_,o_,hc3 hc0,hch,by simp[e1,e5,b5,pJ,e6,e7,Ky,U9]⟩
     all_goals clear e1 e5 b5 e6 e7 Ky e8 U9 e26 e27 e28 gb
     all_goals
      rintro σ3 ⟨k,Ex,E,hk,hE,I9,hEr,E2⟩;obtain⟨Bn,hBn⟩:∃ Bn:Nat,Ex=Bn:=⟨Ex.toNat,by have:=hr Ex I9;omega⟩;have hBb:=hr Ex I9;by_cases gb:k<E.length
      .obtain⟨x,hx⟩:∃ x,E[k]? = some x:=⟨_,Z4 gb⟩;have hx2:=Yu hx;have hxm:=hEr x (Z6 hx);have hxb:=hr x hxm;obtain⟨X,hX⟩:∃ X:Nat,x=X:=⟨x.toNat,o_⟩;have n1:=Z4y bs hbs X o_;have n2:=Z4y bs hbs Bn o_;rw[<- hX]at n1;rw[<- hBn]at n2;have tk:=Zo1 hbs;simp[-getElem?_pos,-exists_and_left,-exists_and_right,E2,gb,hx2,hbs,tk,ZeK];refine⟨ZkL fun b=>rfl,?_⟩;refine Zv [] n1 ?_;rintro _ ⟨d1,_,_,rfl⟩;simp[-getElem?_pos,-exists_and_left,-exists_and_right,E2,gb,hx2,hbs,tk,ZeK];refine⟨ZkL fun b=>rfl,?_⟩;refine Zv [] n2 ?_;rintro _ ⟨d2,_,_,rfl⟩;by_cases hd:d1<d2
       .simp[-getElem?_pos,-exists_and_left,-exists_and_right,E2,gb,hx2,hd]
        ((repeat' with_reducible apply And.intro)<;> try exact Ye);refine BD (AZ _) ⟨k+1,x,E,o_,hE,hxm,hEr,by simp[E2]⟩ (by simp[E2];omega)
       .simp[-getElem?_pos,-exists_and_left,-exists_and_right,E2,gb,hx2,hd]
        ((repeat' with_reducible apply And.intro)<;> try exact Ye);refine BD (AZ _) ⟨k+1,Ex,E,o_,hE,I9,hEr,by simp[E2]⟩ (by simp[E2];omega)
      .have n1:=Zhv bs hbs Bn o_;rw[<- hBn]at n1;have n2:=Z5A rest Ex o_;have tk:=Zo1 hbs;simp[-getElem?_pos,-exists_and_left,-exists_and_right,E2,gb,hbs,tk,ZeK,QH];refine⟨⟨o_,by unfold maxLen;omega⟩,ZkL fun b=>rfl,?_⟩;refine Zv [] n1 ?_;rintro _ ⟨m,fl,hm,_,_,rfl⟩;have dr:List.drop 100 (bE bs)=[]:=List.drop_eq_nil_of_le (by simp[hbs]);simp[-getElem?_pos,-exists_and_left,-exists_and_right,E2,gb,hbs,tk,hm,Pp,dr,QH];refine Ah [] n2 ?_;simp[-getElem?_pos,-exists_and_left,-exists_and_right,E2,gb,hbs,tk,hm,Pp,dr,QH]
       have hlt:(rest.filter fun x=>!decide (x=Ex)).length<rest.length:=by
        refine List.length_filter_lt_length_iff_exists.2 ⟨Ex,I9,s_⟩
       refine BD (Wk.DT _ [75]) ⟨rest.filter fun x=>!decide (x=Ex),o++[Ex],m,σ3.clk+1+3,s5,AR,fun v hv=>hr v (List.mem_filter.1 hv).1,fun v hv=>?_,hm,by simp[E2,pJ]⟩ (by simpa using hlt);rcases List.mem_append.1 hv with h|h
       .exact ho v h
       .rw[List.mem_singleton.1 h];exact hr Ex I9
  .obtain rfl:rest=[]:=List.eq_nil_of_length_eq_zero o_;simp[-getElem?_pos,-exists_and_left,-exists_and_right,e1,e5,b5,e6,e7,Ky];refine Zr (r:=.own 3 1 (iE o)) ?_ rfl ⟨o,by simpa using hlen,ho,rfl⟩;simp[-getElem?_pos,-exists_and_left,-exists_and_right,e1,e5,b5,e6,e7,Ky]
end Go.Proofs.YtcnbphnnfmphlaaGreatDoor
