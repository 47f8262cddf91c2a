/- Texts of this proof. -/
import Derived.HandedShaped
import Derived.Shelf.Strings.Shaped
import Derived.Test.YtcnbphnnfmphlaaGreatDoorGtm36
namespace Go.Proofs.YtcnbphnnfmphlaaGreatDoor
open Bool renaming exists_bool → Z3
open Int renaming eq_ofNat_of_zero_le → Zl
open _root_.List renaming getElem?_eq_getElem → Z4,mem_of_getElem? → Z6,replicate → Zk,getElem?_map → ZH
open Nat renaming zero_le → Zs
open Option.some renaming inj → Z7
open Go.Proofs.Tryz
open Go.RowKit
set_option linter.unusedVariables false
set_option linter.unusedSimpArgs false
set_option maxHeartbeats 4000000
set_option maxRecDepth 100000
variable{v1 v2:Value}{w':World}
def gE(g:List (List Bool)):List (List AV):=g.map fun r=>[.sl false 4 1 (kS r)]
@[simp] theorem Ztc(l:List (List Bool)):(gE l).length=l.length:=by simp[gE]
theorem pU{l:List (List Bool)}{k:Nat}{x:List Bool}(h:l[k]? = some x):(gE l)[k]? = some [.sl false 4 1 (kS x)]:=by simp[gE,h]
theorem Zpg(l:List (List Bool))(x:List Bool):gE l++[[.sl false 4 1 (kS x)]]=gE (l++[x]):=by simp[gE]
@[simp] theorem Ztb :gE []=[]:=rfl
def vE(g:List (List Int)):List (List AV):=g.map fun r=>[.sl false 3 1 (iE r)]
@[simp] theorem ZsX(l:List (List Int)):(vE l).length=l.length:=by simp[vE]
theorem Zqd{l:List (List Int)}{k:Nat}{x:List Int}(h:l[k]? = some x):(vE l)[k]? = some [.sl false 3 1 (iE x)]:=by simp[vE,h]
theorem Zok(l:List (List Int))(x:List Int):vE l++[[.sl false 3 1 (iE x)]]=vE (l++[x]):=by simp[vE]
@[simp] theorem ZsW :vE []=[]:=rfl
def Sq(g:List (List Bool))(n:Nat):Prop:=g.length=n/\∀ r∈g,r.length=n
theorem Z4z(g:List (List Bool))(l:List Int)(n:Nat)(hq:Sq g n)(hl:l.length<=100000)(hv:∀ v∈l,0<=v/\v<n):AF prog 136 [.sl true 214 1 (gE g),.sl true 3 1 (iE l)] (fun r=>∃ b,r=.bool b):=by
 obtain⟨hg,hr⟩:=hq;refine BI func136 ntmps136 results136 ?_;simp[-getElem?_pos,-exists_and_left,-exists_and_right,-Z3];refine ZF (fun σ=>∃ k:Nat,k<=l.length/\σ.env 0=.sl true 214 1 (gE g)/\σ.env 1=.sl true 3 1 (iE l)/\σ.env 9=.sl true 3 1 (iE l)/\σ.env 10=.int .i64 l.length/\σ.env 11=.int .i64 k) (fun σ=>100001-BU (σ.env 11)) (AZ _) ?_ ?_
 .exact⟨0,Zs _,s_⟩
 .rintro σ ⟨k,hk,e0,e1,e9,e10,e11⟩;by_cases gk:k<l.length
  .obtain⟨x,hx⟩:∃ x,l[k]? = some x:=⟨_,Z4 gk⟩;have hx2:=Yu hx;obtain⟨x1,x2⟩:=hv x (Z6 hx);obtain⟨x,rfl⟩:=Zl x1;simp[-getElem?_pos,-exists_and_left,-exists_and_right,-Z3,e0,e1,e9,e10,e11,gk,hx2,ZeB];refine⟨hk,?_⟩;have hmin:min k l.length=k:=by omega
   refine ZF (fun σ=>∃ j:Nat,j<=k/\σ.env 0=.sl true 214 1 (gE g)/\σ.env 1=.sl true 3 1 (iE l)/\σ.env 6=.int .i64 x/\σ.env 9=.sl true 3 1 (iE l)/\σ.env 10=.int .i64 l.length/\σ.env 11=.int .i64 k/\σ.env 18=.sl true 3 1 (iE (l.take k))/\σ.env 19=.int .i64 k/\σ.env 20=.int .i64 j) (fun σ=>100001-BU (σ.env 20)) (AZ _) ?_ ?_
   .exact⟨0,Zs _,by simp[e0,e1,e9,e10,e11,hmin]⟩
   .rintro σ ⟨j,hj,e0,e1,e6,e9,e10,e11,e18,e19,e20⟩;by_cases gj:j<k
    .obtain⟨u,hu⟩:∃ u,(l.take k)[j]? = some u:=⟨_,Z4 AR⟩;have hu2:=Yu hu;obtain⟨u1,u2⟩:=hv u (List.mem_of_mem_take (Z6 hu));obtain⟨u,rfl⟩:=Zl u1;have gu:u<g.length:=by omega
     obtain⟨r,hr1⟩:∃ r,g[u]? = some r:=⟨_,Z4 gu⟩;have hr2:=pU hr1;have gr:=hr r (Z6 hr1);have gx:x<r.length:=by omega
     obtain⟨b,hb⟩:∃ b,r[x]? = some b:=⟨_,Z4 gx⟩;have hb2:=VD hb;have Me:j<l.length:=by omega
     have gj3:j<min k l.length:=by omega
     cases b
     .simp[-getElem?_pos,-exists_and_left,-exists_and_right,-Z3,e0,e1,e6,e9,e10,e11,e18,e19,e20,gj,Me,hu2,gu,hr2,gx,hb2];refine Zr (r:=.bool false) ?_ rfl ⟨_,rfl⟩;simp[-getElem?_pos,-exists_and_left,-exists_and_right,-Z3]
     .simp[-getElem?_pos,-exists_and_left,-exists_and_right,-Z3,e0,e1,e6,e9,e10,e11,e18,e19,e20,gj,Me,hu2,gu,hr2,gx,hb2]
      ((repeat' with_reducible apply And.intro)<;> try exact Ye);refine BD (AZ _) ⟨j+1,o_,by simp[e0,e1,e6,e9,e10,e11,e18,e19]⟩ (by simp[e20];omega)
    .obtain rfl:j=k:=by omega
     simp[-getElem?_pos,-exists_and_left,-exists_and_right,-Z3,e0,e1,e6,e9,e10,e11,e18,e19,e20]
     ((repeat' with_reducible apply And.intro)<;> try exact Ye);refine BD (AZ _) ⟨j+1,o_,by simp[e0,e1,e9,e10]⟩ (by simp[e11];omega)
  .obtain rfl:k=l.length:=by omega
   simp[-getElem?_pos,-exists_and_left,-exists_and_right,-Z3,e0,e1,e9,e10,e11];refine Zr (r:=.bool true) ?_ rfl ⟨_,rfl⟩;simp[-getElem?_pos,-exists_and_left,-exists_and_right,-Z3]
theorem Z9z(g:List (List Bool))(hl:g.length<=100000)(hr:∀ r∈g,r.length<=100000):AF prog 134 [.sl true 214 1 (gE g)] (fun r=>∃ b,r=.bool b/\(b=true->g.length<=12/\Sq g g.length)):=by
 have hno:∃ b,AV.bool false=.bool b/\(b=true->g.length<=12/\Sq g g.length):=⟨false,rfl,s_⟩;by_cases h12:12<g.length
 .have EF:(12:Int)<(g.length:Int):=by omega
  refine BI func134 ntmps134 results134 ?_;simp[-getElem?_pos,-exists_and_left,-exists_and_right,-Z3,h12,EF];refine Zr (r:=.bool false) ?_ rfl hno;simp[-getElem?_pos,-exists_and_left,-exists_and_right,-Z3]
 have EF:¬(12:Int)<(g.length:Int):=by omega
 refine BI func134 ntmps134 results134 ?_;simp[-getElem?_pos,-exists_and_left,-exists_and_right,-Z3,h12,EF];refine ZF (fun σ=>∃ k:Nat,k<=g.length/\(∀ r∈g.take k,r.length=g.length)/\σ.env 0=.sl true 214 1 (gE g)/\σ.env 3=.int .i64 g.length/\σ.env 14=.sl true 214 1 (gE g)/\σ.env 15=.int .i64 g.length/\σ.env 16=.int .i64 k) (fun σ=>13-BU (σ.env 16)) (AZ _) ?_ ?_
 .exact⟨0,Zs _,s_⟩
 .rintro σ ⟨k,hk,hq,e0,e3,e14,e15,e16⟩;by_cases gk:k<g.length
  .obtain⟨r,hr1⟩:∃ r,g[k]? = some r:=⟨_,Z4 gk⟩;have hr2:=pU hr1;have gr:=hr r (Z6 hr1);by_cases he:r.length=g.length
   .have he2:(r.length:Int)=(g.length:Int):=by omega
    simp[-getElem?_pos,-exists_and_left,-exists_and_right,-Z3,e0,e3,e14,e15,e16,gk,hr2,he]
    ((repeat' with_reducible apply And.intro)<;> try exact Ye);refine BD (AZ _) ⟨k+1,o_,fun y hy=>?_,by simp[e0,e3,e14,e15]⟩ (by simp[e16];omega);rw[QI hr1]at hy;rcases List.mem_append.1 hy with h'|h'
    .exact hq y h'
    .rw[List.mem_singleton.1 h'];exact he
   .have he2:¬(r.length:Int)=(g.length:Int):=by omega
    simp[-getElem?_pos,-exists_and_left,-exists_and_right,-Z3,e0,e3,e14,e15,e16,gk,hr2,he,he2];refine Zr (r:=.bool false) ?_ rfl hno;simp[-getElem?_pos,-exists_and_left,-exists_and_right,-Z3]
  .obtain rfl:k=g.length:=by omega
   rw[List.take_length]at hq;simp[-getElem?_pos,-exists_and_left,-exists_and_right,-Z3,e0,e3,e14,e15,e16];refine ZF (fun σ=>∃ k:Nat,k<=g.length/\σ.env 0=.sl true 214 1 (gE g)/\σ.env 25=.sl true 214 1 (gE g)/\σ.env 26=.int .i64 g.length/\σ.env 27=.int .i64 k) (fun σ=>13-BU (σ.env 27)) (AZ _) ?_ ?_
   .exact⟨0,Zs _,by simp[e0]⟩
   .rintro σ ⟨k,hk,e0,e25,e26,e27⟩;by_cases gk:k<g.length
    .obtain⟨r,hr1⟩:∃ r,g[k]? = some r:=⟨_,Z4 gk⟩;have hr2:=pU hr1;have gr:=hq r (Z6 hr1);simp[-getElem?_pos,-exists_and_left,-exists_and_right,-Z3,e0,e25,e26,e27,gk,hr2];refine ZF (fun σ=>∃ j:Nat,j<=r.length/\σ.env 0=.sl true 214 1 (gE g)/\σ.env 6=.int .i64 k/\σ.env 25=.sl true 214 1 (gE g)/\σ.env 26=.int .i64 g.length/\σ.env 27=.int .i64 k/\σ.env 32=.sl false 4 1 (kS r)/\σ.env 33=.int .i64 r.length/\σ.env 34=.int .i64 j) (fun σ=>13-BU (σ.env 34)) (AZ _) ?_ ?_
     .exact⟨0,Zs _,by simp[e0,e25,e26,e27]⟩
     .rintro σ ⟨j,hj,e0,e6,e25,e26,e27,e32,e33,e34⟩;by_cases gj:j<r.length
      .obtain⟨b,hb⟩:∃ b,r[j]? = some b:=⟨_,Z4 gj⟩;have hb2:=VD hb;have Me:j<g.length:=by omega
       obtain⟨t,ht⟩:∃ t,g[j]? = some t:=⟨_,Z4 Me⟩;have ht2:=pU ht;have gt:=hq t (Z6 ht);have Px:k<t.length:=by omega
       obtain⟨c,hc⟩:∃ c,t[k]? = some c:=⟨_,Z4 Px⟩;have hc2:=VD hc;by_cases hkj:k=j
       .subst hkj;cases b<;>cases c
        .simp[-getElem?_pos,-exists_and_left,-exists_and_right,-Z3,e0,e6,e25,e26,e27,e32,e33,e34,gj,hb2,Me,ht2,Px,hc2]
         ((repeat' with_reducible apply And.intro)<;> try exact Ye);refine BD (AZ _) ⟨k+1,o_,by simp[e0,e6,e25,e26,e27,e32,e33]⟩ (by simp[e34];omega)
        .simp[-getElem?_pos,-exists_and_left,-exists_and_right,-Z3,e0,e6,e25,e26,e27,e32,e33,e34,gj,hb2,Me,ht2,Px,hc2];refine Zr (r:=.bool false) ?_ rfl hno;simp[-getElem?_pos,-exists_and_left,-exists_and_right,-Z3]
        .simp[-getElem?_pos,-exists_and_left,-exists_and_right,-Z3,e0,e6,e25,e26,e27,e32,e33,e34,gj,hb2,Me,ht2,Px,hc2];refine Zr (r:=.bool false) ?_ rfl hno;simp[-getElem?_pos,-exists_and_left,-exists_and_right,-Z3]
        .simp[-getElem?_pos,-exists_and_left,-exists_and_right,-Z3,e0,e6,e25,e26,e27,e32,e33,e34,gj,hb2,Me,ht2,Px,hc2];refine Zr (r:=.bool false) ?_ rfl hno;simp[-getElem?_pos,-exists_and_left,-exists_and_right,-Z3]
       .have K5:¬(k:Int)=(j:Int):=by omega
        cases b<;>cases c
        .simp[-getElem?_pos,-exists_and_left,-exists_and_right,-Z3,e0,e6,e25,e26,e27,e32,e33,e34,gj,hb2,Me,ht2,Px,hc2,hkj,K5]
         ((repeat' with_reducible apply And.intro)<;> try exact Ye);refine BD (AZ _) ⟨j+1,o_,by simp[e0,e6,e25,e26,e27,e32,e33]⟩ (by simp[e34];omega)
        .simp[-getElem?_pos,-exists_and_left,-exists_and_right,-Z3,e0,e6,e25,e26,e27,e32,e33,e34,gj,hb2,Me,ht2,Px,hc2,hkj,K5];refine Zr (r:=.bool false) ?_ rfl hno;simp[-getElem?_pos,-exists_and_left,-exists_and_right,-Z3]
        .simp[-getElem?_pos,-exists_and_left,-exists_and_right,-Z3,e0,e6,e25,e26,e27,e32,e33,e34,gj,hb2,Me,ht2,Px,hc2,hkj,K5];refine Zr (r:=.bool false) ?_ rfl hno;simp[-getElem?_pos,-exists_and_left,-exists_and_right,-Z3]
        .simp[-getElem?_pos,-exists_and_left,-exists_and_right,-Z3,e0,e6,e25,e26,e27,e32,e33,e34,gj,hb2,Me,ht2,Px,hc2,hkj,K5]
         ((repeat' with_reducible apply And.intro)<;> try exact Ye);refine BD (AZ _) ⟨j+1,o_,by simp[e0,e6,e25,e26,e27,e32,e33]⟩ (by simp[e34];omega)
      .obtain rfl:j=r.length:=by omega
       simp[-getElem?_pos,-exists_and_left,-exists_and_right,-Z3,e0,e6,e25,e26,e27,e32,e33,e34]
       ((repeat' with_reducible apply And.intro)<;> try exact Ye);refine BD (AZ _) ⟨k+1,o_,by simp[e0,e25,e26]⟩ (by simp[e27];omega)
    .obtain rfl:k=g.length:=by omega
     simp[-getElem?_pos,-exists_and_left,-exists_and_right,-Z3,e0,e25,e26,e27];refine Zr (r:=.bool true) ?_ rfl ⟨true,rfl,fun _=>⟨o_,rfl,hq⟩⟩;simp[-getElem?_pos,-exists_and_left,-exists_and_right,-Z3]
theorem Z5B(n:Nat)(hn:n<=12):AF prog 135 [.int .i64 n] (fun r=>∃ ss:List (List Int),r=.sl false 43 1 (vE ss)/\ss.length<=4096/\∀ l∈ss,l.length<=12/\∀ v∈l,0<=v/\v<n):=by
 obtain⟨B,hB,hB1,hB2⟩:∃ B:Nat,(2:Int) ^ min n IntKind.i64.bits=(B:Int)/\1<=B/\B<=4096:=by
  have e:min n IntKind.i64.bits=n:=by show min n 64=n;omega
  exact⟨2 ^ n,by rw[e];simp[-getElem?_pos,-exists_and_left,-exists_and_right,-Z3],Nat.one_le_two_pow,by have:=Nat.pow_le_pow_right (n:=2) o_ hn;omega⟩
 refine BI func135 ntmps135 results135 ?_;simp[-getElem?_pos,-exists_and_left,-exists_and_right,-Z3,hB]
 ((repeat' with_reducible apply And.intro)<;> try exact Ye);refine ZF (fun σ=>∃ (k st:Nat) (ss:List (List Int)),k<=B/\ss.length+k<=B/\(∀ l∈ss,l.length<=12/\∀ v∈l,0<=v/\v<n)/\σ.env 0=.int .i64 n/\σ.env 3=.vw 7 st/\σ.box 7=some ⟨43,1,st,vE ss,true⟩/\σ.env 4=.int .i64 ((k:Int)-1)) (fun σ=>pQ (σ.env 4)) (AZ _) ?_ ?_
 .exact⟨B,_,[],o_,s_,s_,s_,by simp<;>rfl,s_⟩
 .rintro σ ⟨k,st,ss,hk,hl,hs,e0,e3,b7,e4⟩;by_cases gk:k=0
  .subst gk;simp[-getElem?_pos,-exists_and_left,-exists_and_right,-Z3,e0,e3,b7,e4];refine Zr (r:=.sl false 43 1 (vE ss)) ?_ rfl ⟨ss,rfl,o_,hs⟩;simp[-getElem?_pos,-exists_and_left,-exists_and_right,-Z3,e0,e3,b7,e4];exact⟨none,s_⟩
  .obtain⟨j,rfl⟩:∃ j,k=j+1:=⟨k-1,o_⟩;have e4:σ.env 4=.int .i64 (j:Int):=by rw[e4];simp[-getElem?_pos,-exists_and_left,-exists_and_right,-Z3]
   simp[-getElem?_pos,-exists_and_left,-exists_and_right,-Z3,e0,e3,b7,e4];refine ZF (fun σ=>∃ (v s5:Nat) (l:List Int),v<=n/\l.length<=v/\(∀ u∈l,0<=u/\u<n)/\σ.env 0=.int .i64 n/\σ.env 3=.vw 7 st/\σ.box 7=some ⟨43,1,st,vE ss,true⟩/\σ.env 4=.int .i64 (j:Int)/\σ.env 5=.vw 15 s5/\σ.box 15=some ⟨3,1,s5,iE l,true⟩/\σ.env 6=.int .i64 v) (fun σ=>13-BU (σ.env 6)) (AZ _) ?_ ?_
   .exact⟨0,_,[],o_,s_,s_,by simp[e0],by simp[e3],by simp[b7],by simp[e4],by simp<;>rfl,s_⟩
   .rintro σ ⟨v,s5,l,hv,hll,hlv,e0,e3,b7,e4,e5,b15,e6⟩;by_cases gv:v<n
    .have hn:=QH l (v:Int);simp[-getElem?_pos,-exists_and_left,-exists_and_right,-Z3,e0,e3,b7,e4,e5,b15,e6,gv];refine⟨Fb o_ o_,Fb o_ o_,o_,fun hc=>?_,fun hc=>?_⟩
     . ((repeat' with_reducible apply And.intro)<;> try exact Ye);refine BD (AZ _) ⟨v+1,_,l++[(v:Int)],o_,AR,Qp hlv ⟨o_,o_⟩,by simp[e0],by simp[e3],by simp[b7],by simp[e4],by simp<;>rfl,by simp[hn]⟩ (by simp[e6]<;> omega)
     . ((repeat' with_reducible apply And.intro)<;> try exact Ye);refine BD (AZ _) ⟨v+1,s5,l,o_,o_,hlv,by simp[e0,e3,b7,e4,e5,b15]⟩ (by simp[e6]<;> omega)
    .have hvn:v=n:=by omega
     have hn:=Zok ss l;rw[hvn]at e6 hll;simp[-getElem?_pos,-exists_and_left,-exists_and_right,-Z3,e0,e3,b7,e4,e5,b15,e6]
     ((repeat' with_reducible apply And.intro)<;> try exact Ye);refine BD (AZ _) ⟨j,_,ss++[l],o_,AR,Qp hs ⟨o_,hlv⟩,by simp[e0],by simp<;>rfl,by simp[hn]⟩ (by simp[e4]<;> omega)
def ZkV(r:AV):Prop:=∃ (ps:List Pt) (ok:Bool),r=.tup [.sl false 89 6 (EN ps),.bool ok]/\(∀ p∈ps,Kw p)/\ps.length<=10
theorem Zdu :ZkV (.tup [.sl false 89 6 [],.bool false]):=⟨[],false,rfl,s_⟩
theorem Zq5(z:Pt)(m:Nat):Ob ((Zk (m+1) [AV.bool false,.nil,.nil,.bool false,.nil,.nil]).set 0 (Dx z)) (EN (z::Zk m ⟨zR,zR⟩)):=by
 rw[List.replicate_succ,List.set_cons_zero];refine⟨J8 _,?_⟩;have:List.map Dx (Zk m ⟨zR,zR⟩)=Zk m (Dx ⟨zR,zR⟩):=by simp
 rw[this,Zq6];refine ZcS ?_ m;simp[-getElem?_pos,-exists_and_left,-exists_and_right,Vq,Vr,Vs,TR]
theorem ZpX{ps:List Pt}(h:∀ p∈ps,Kw p)(k:Nat){q:Pt}(hq:Kw q):∀ p∈ps.set k q,Kw p:=fun p hp=>by
 rcases List.mem_or_eq_of_mem_set hp with h'|rfl
 .exact h p h'
 .exact hq
theorem Z8x(net:List Cd)(hl:net.length<=1000)(g:∀ c∈net,Mb c/\c.ps.length<=1000):AF prog 87 [.sl true 161 5 (cE net)] ZkV:=by
 have n0:=Zd5 net hl g;have hz:=Z1r;have gz:Kw ⟨Dw 0,Dw 0⟩:=⟨YS AO,YS AO⟩;generalize (⟨Dw 0,Dw 0⟩:Pt)=z at *
 refine BI func87 ntmps87 results87 ?_;simp[-getElem?_pos,-exists_and_left,-exists_and_right];refine Zv [] n0 ?_;rintro _ ⟨b,rfl,hb⟩;cases b
 .simp[-getElem?_pos,-exists_and_left,-exists_and_right];refine Zr ?_ rfl Zdu;simp[-getElem?_pos,-exists_and_left,-exists_and_right]
 have hv:=hb rfl;simp[-getElem?_pos,-exists_and_left,-exists_and_right];refine ZF (fun σ=>∃ (k:Nat) (m:Nat),k<=net.length/\m<=9/\(∀ c∈net.take k,c.nd<=m)/\σ.env 0=.sl true 161 5 (cE net)/\σ.env 4=.int .i64 m/\σ.env 14=.sl true 161 5 (cE net)/\σ.env 15=.int .i64 net.length/\σ.env 16=.int .i64 k) (fun σ=>1001-BU (σ.env 16)) (AZ _) ?_ ?_
 .exact⟨0,0,Zs _,o_,s_⟩
 .rintro σ ⟨k,m,hk,hm,hle,e0,e4,e14,e15,e16⟩;by_cases gk:k<net.length
  .obtain⟨x,hx⟩:∃ x,net[k]? = some x:=⟨_,Z4 gk⟩;have hx2:=ZkG hx;obtain⟨v1,v2⟩:=(hv x (Z6 hx)).nd;obtain⟨nd,hnd⟩:=Zl (show 0<=x.nd by omega);simp[-getElem?_pos,-exists_and_left,-exists_and_right,e0,e4,e14,e15,e16,gk,hx2,Dg,hnd]
   ((repeat' with_reducible apply And.intro)<;> try exact Ye);refine BD (AZ _) ⟨k+1,max m nd,o_,o_,fun y hy=>?_,by simp[e0],by simp<;>omega,by simp[e14,e15]⟩ (by simp[e16]<;> omega);rw[QI hx]at hy;rcases List.mem_append.1 hy with h'|h'
   .have:=hle y h';omega
   .rw[List.mem_singleton.1 h'];omega
  .obtain rfl:k=net.length:=by omega
   rw[List.take_length]at hle;simp[-getElem?_pos,-exists_and_left,-exists_and_right,e0,e4,e14,e15,e16]
   ((repeat' with_reducible apply And.intro)<;> try exact Ye);refine Ah [] hz ?_;simp[-getElem?_pos,-exists_and_left,-exists_and_right,e0,e4,e14,e15,e16,Dx]
   ((repeat' with_reducible apply And.intro)<;> try exact Ye);refine ZF (fun σ=>∃ (k st:Nat) (ps:List Pt),k<=net.length/\ps.length=m+1/\(∀ p∈ps,Kw p)/\σ.env 0=.sl true 161 5 (cE net)/\σ.env 7=.vw 27 st/\σ.box 27=some ⟨89,6,st,EN ps,true⟩/\σ.env 8=.int .i64 ((k:Int)-1)) (fun σ=>pQ (σ.env 8)) (Wk.cells _ 27 _ (EN (z::Zk m ⟨zR,zR⟩)) (by simp;rfl) (Zq5 z m) (fun _=>Zpa _)) ?_ ?_
   .exact⟨net.length,_,z::Zk m ⟨zR,zR⟩,Nat.le_refl _,s_,fun p hp=>by
     rcases List.mem_cons.1 hp with rfl|hp
     .exact gz
     .rw[List.eq_of_mem_replicate hp];exact⟨.zero,.zero⟩,by simp[e0],by simp;rfl,s_⟩
   .rintro σ ⟨k,st,ps,hk,hps,gp,E⟩;have e8:=E.2.2.2;by_cases gk:k=0
    .subst gk;simp[-getElem?_pos,-exists_and_left,-exists_and_right,E];refine Zr (r:=.tup [.sl false 89 6 (EN ps),.bool true]) ?_ rfl ⟨ps,true,rfl,gp,o_⟩;simp[-getElem?_pos,-exists_and_left,-exists_and_right,E];exact⟨none,s_⟩
    .obtain⟨j,rfl⟩:∃ j,k=j+1:=⟨k-1,o_⟩;have e8:σ.env 8=.int .i64 (j:Int):=by rw[e8];simp[-getElem?_pos,-exists_and_left,-exists_and_right]
     have gj:j<net.length:=by omega
     obtain⟨x,hx⟩:∃ x,net[j]? = some x:=⟨_,Z4 gj⟩;have hx2:=ZkG hx;have hxm:=Z6 hx;obtain⟨v1,v2⟩:=(hv x hxm).nd;have Z6K:=hle x hxm;have n1:=Z1h x (g x hxm).1 (g x hxm).2 ps o_ gp;obtain⟨nd,hnd⟩:=Zl (show 0<=x.nd by omega);have gnd:nd<ps.length:=by omega
     obtain⟨y,hy⟩:∃ y,ps[nd]? = some y:=⟨_,Z4 gnd⟩;have hy2:=Zec hy;simp[-getElem?_pos,-exists_and_left,-exists_and_right,E,gj,hx2,Dg];refine Zv [] n1 ?_;rintro _ ⟨q,ok,rfl,gq⟩;cases ok
     .simp[-getElem?_pos,-exists_and_left,-exists_and_right,E,gj,hx2,Dg,Dx];refine Zr ?_ rfl Zdu;simp[-getElem?_pos,-exists_and_left,-exists_and_right,E]
     .simp[-getElem?_pos,-exists_and_left,-exists_and_right,E,gj,hx2,Dg,Dx,hnd,gnd,hy2]
      ((repeat' with_reducible apply And.intro)<;> try exact Ye);refine BD (AZ _) ⟨j,_,ps.set nd q,o_,by simpa using hps,ZpX gp nd gq,by simp[E],by simp[E]<;> rfl,by simp[E,<- ZoJ,Dx]⟩ (by simp[E]<;> omega)
theorem Z6P(ts:List Tn)(hl:ts.length<=1000)(g:∀ n∈ts,Mb n.cd/\n.cd.ps.length<=1000):AF prog 58 [.agg [.sl true 163 12 (tE ts)]] ZkV:=by
 have n0:=Z9u ts o_ g;have n1:=Z8x (ts.map (·.cd)) (by simpa using hl) (fun c hc=>by obtain⟨n,hn,rfl⟩:=List.mem_map.1 hc;exact g n hn);refine BI func58 ntmps58 results58 ?_;simp[-getElem?_pos,-exists_and_left,-exists_and_right];refine Ah [] n0 ?_;simp[-getElem?_pos,-exists_and_left,-exists_and_right];refine Zv [] n1 ?_;rintro _ ⟨ps,ok,rfl,gp,hp⟩;simp[-getElem?_pos,-exists_and_left,-exists_and_right];refine Zr (r:=.tup [.sl false 89 6 (EN ps),.bool ok]) ?_ rfl ⟨ps,ok,rfl,gp,hp⟩;simp[-getElem?_pos,-exists_and_left,-exists_and_right]
def ZkW(r:AV):Prop:=∃ (ps:List Pt) (q:Rt) (ok:Bool),r=.tup [.sl false 89 6 (EN ps),.agg (dQ q),.bool ok]/\(∀ p∈ps,Kw p)/\Bq q/\ps.length<=10
theorem Z8X :ZkW (.tup [.sl false 89 6 [],.agg [.bool false,.sl false 3 1 [],.sl false 3 1 []],.bool false]):=⟨[],zR,false,by rw[Jb];rfl,s_,.zero,s_⟩
theorem Z8y(l:List A7)(hs:K3 l)(sk:List Int)(hk:sk.length<=1000):AF prog 34 [.sl true 35 8 (fE l),.sl true 3 1 (iE sk)] ZkW:=by
 have n0:=Z8C l hs sk hk;refine BI func34 ntmps34 results34 ?_;simp[-getElem?_pos,-exists_and_left,-exists_and_right];refine Zv [] n0 ?_;rintro _ ⟨ts,ok,rfl,gt,ht⟩;cases ok
 .simp[-getElem?_pos,-exists_and_left,-exists_and_right];refine Zr ?_ rfl Z8X;simp[-getElem?_pos,-exists_and_left,-exists_and_right]
 have n1:=Z6P ts o_ (fun n hn=>⟨(gt n hn).cg,(gt n hn).cl⟩);have n2:=Z5H ts o_ (fun n hn=>(gt n hn).en);simp[-getElem?_pos,-exists_and_left,-exists_and_right];refine Zv [] n1 ?_;rintro _ ⟨ps,ok,rfl,gp,hp⟩;simp[-getElem?_pos,-exists_and_left,-exists_and_right];refine Zv [] n2 ?_;rintro _ ⟨q,gq,rfl⟩;cases ok
 .simp[-getElem?_pos,-exists_and_left,-exists_and_right,dQ];refine Zr ?_ rfl Z8X;simp[-getElem?_pos,-exists_and_left,-exists_and_right]
 have n3:=Yw q;cases h:QC q
 .rw[h]at n3;simp[-getElem?_pos,-exists_and_left,-exists_and_right,dQ];refine Ah [] n3 ?_;simp[-getElem?_pos,-exists_and_left,-exists_and_right];refine Zr ?_ rfl Z8X;simp[-getElem?_pos,-exists_and_left,-exists_and_right]
 .rw[h]at n3;simp[-getElem?_pos,-exists_and_left,-exists_and_right,dQ];refine Ah [] n3 ?_;simp[-getElem?_pos,-exists_and_left,-exists_and_right];refine⟨EM BC,?_⟩;refine Zr (r:=.tup [.sl false 89 6 (EN ps),.agg (dQ q),.bool true]) ?_ rfl ⟨ps,q,true,rfl,gp,gq,hp⟩;simp[-getElem?_pos,-exists_and_left,-exists_and_right,dQ]
theorem Z6S(g:List (List Bool))(hl:g.length<=100000)(hr:∀ r∈g,r.length<=100000):AF prog 94 [.sl true 214 1 (gE g)] (fun r=>∃ l:List Int,r=.sl false 3 1 (iE l)/\l.length<=12/\∀ v∈l,0<=v/\v<g.length):=by
 have n0:=Z9z g hl hr;refine BI func94 ntmps94 results94 ?_;simp[-getElem?_pos,-exists_and_left,-exists_and_right];refine Zv [] n0 ?_;rintro _ ⟨b,rfl,hb⟩;cases b
 .simp[-getElem?_pos,-exists_and_left,-exists_and_right];refine Zr (r:=.sl false 3 1 (iE [])) ?_ rfl ⟨[],rfl,s_,s_⟩;simp[-getElem?_pos,-exists_and_left,-exists_and_right]
 obtain⟨h12,hq⟩:=hb rfl;have n1:=Z5B g.length h12;simp[-getElem?_pos,-exists_and_left,-exists_and_right];refine Zv [] n1 ?_;rintro _ ⟨ss,rfl,hs1,hs2⟩;simp[-getElem?_pos,-exists_and_left,-exists_and_right];refine ZF (fun σ=>∃ (k:Nat) (l:List Int),k<=ss.length/\l.length<=12/\(∀ v∈l,0<=v/\v<g.length)/\σ.env 0=.sl true 214 1 (gE g)/\σ.env 3=.sl false 3 1 (iE l)/\σ.env 12=.sl false 43 1 (vE ss)/\σ.env 13=.int .i64 ss.length/\σ.env 14=.int .i64 k) (fun σ=>4097-BU (σ.env 14)) (Wk.DT _ [9]) ?_ ?_
 .exact⟨0,[],Zs _,s_,s_,s_,s_,s_,s_,s_⟩
 .rintro σ ⟨k,l,hk,hl2,hv,e0,e3,e12,e13,e14⟩;by_cases gk:k<ss.length
  .obtain⟨x,hx⟩:∃ x,ss[k]? = some x:=⟨_,Z4 gk⟩;have hx2:=Zqd hx;obtain⟨x1,x2⟩:=hs2 x (Z6 hx);by_cases hlt:l.length<x.length
   .have n2:=Z4z g x g.length hq o_ x2;have hlt2:(l.length:Int)<(x.length:Int):=by omega
    simp[-getElem?_pos,-exists_and_left,-exists_and_right,e0,e3,e12,e13,e14,gk,hx2,hlt,hlt2];refine Zv [] n2 ?_;rintro _ ⟨b,rfl⟩;cases b
    .simp[-getElem?_pos,-exists_and_left,-exists_and_right,e0,e3,e12,e13,e14,gk,hx2,hlt]
     ((repeat' with_reducible apply And.intro)<;> try exact Ye);refine BD (AZ _) ⟨k+1,l,o_,hl2,hv,by simp[e0],by simp[e3],by simp[e12],by simp[e13],s_⟩ (by simp[e14]<;> omega)
    .simp[-getElem?_pos,-exists_and_left,-exists_and_right,e0,e3,e12,e13,e14,gk,hx2,hlt]
     ((repeat' with_reducible apply And.intro)<;> try exact Ye);refine BD (AZ _) ⟨k+1,x,o_,x1,x2,by simp[e0],s_,by simp[e12],by simp[e13],s_⟩ (by simp[e14]<;> omega)
   .have hlt2:¬(l.length:Int)<(x.length:Int):=by omega
    simp[-getElem?_pos,-exists_and_left,-exists_and_right,e0,e3,e12,e13,e14,gk,hx2,hlt,hlt2]
    ((repeat' with_reducible apply And.intro)<;> try exact Ye);refine BD (AZ _) ⟨k+1,l,o_,hl2,hv,by simp[e0],by simp[e3],by simp[e12],by simp[e13],s_⟩ (by simp[e14]<;> omega)
  .obtain rfl:k=ss.length:=by omega
   simp[-getElem?_pos,-exists_and_left,-exists_and_right,e0,e3,e12,e13,e14];refine Zr (r:=.sl false 3 1 (iE l)) ?_ rfl ⟨l,rfl,hl2,hv⟩;simp[-getElem?_pos,-exists_and_left,-exists_and_right,e0,e3,e12,e13,e14]
theorem Z1g(l:List A7)(hs:K3 l)(hl:l.length<=40)(lim:Int):AF prog 95 [.sl true 35 8 (fE l),.int .i64 lim] (fun r=>∃ g:List (List Bool),r=.sl false 214 1 (gE g)/\g.length<=(Ia l 4).length/\∀ r∈g,r.length<=100000):=by
 have n0:=Ji l 4 o_;have n1:=YU l hs;have hno:∃ g:List (List Bool),AV.sl false 214 1 (gE [])=.sl false 214 1 (gE g)/\g.length<=(Ia l 4).length/\∀ r∈g,r.length<=100000:=⟨[],rfl,s_,s_⟩;cases hf:YW l
 .rw[hf]at n1;refine BI func95 ntmps95 results95 ?_;simp[-getElem?_pos,-exists_and_left,-exists_and_right];refine Ah [] n0 ?_;simp[-getElem?_pos,-exists_and_left,-exists_and_right];refine Ah [] n1 ?_;simp[-getElem?_pos,-exists_and_left,-exists_and_right];refine Zr ?_ rfl hno;simp[-getElem?_pos,-exists_and_left,-exists_and_right]
 rw[hf]at n1;obtain⟨ids,Ue⟩:∃ ids,ids=Ia l 4:=⟨_,rfl⟩;rw[<- Ue]at n0 hno ⊢;by_cases h12:12<ids.length
 .have EF:(12:Int)<(ids.length:Int):=by omega
  refine BI func95 ntmps95 results95 ?_;simp[-getElem?_pos,-exists_and_left,-exists_and_right];refine Ah [] n0 ?_;simp[-getElem?_pos,-exists_and_left,-exists_and_right];refine Ah [] n1 ?_;simp[-getElem?_pos,-exists_and_left,-exists_and_right,h12,EF];refine Zr ?_ rfl hno;simp[-getElem?_pos,-exists_and_left,-exists_and_right]
 have EF:¬(12:Int)<(ids.length:Int):=by omega
 refine BI func95 ntmps95 results95 ?_;simp[-getElem?_pos,-exists_and_left,-exists_and_right];refine Ah [] n0 ?_;simp[-getElem?_pos,-exists_and_left,-exists_and_right];refine Ah [] n1 ?_;simp[-getElem?_pos,-exists_and_left,-exists_and_right,h12,EF];refine ZF (fun σ=>∃ (k s5 s6:Nat) (g:List (List Bool)),k<=ids.length/\g.length=k/\(∀ r∈g,r.length<=100000)/\σ.env 0=.sl true 35 8 (fE l)/\σ.env 1=.int .i64 lim/\σ.env 5=.vw 13 s5/\σ.box 13=some ⟨3,1,s5,iE ids,true⟩/\σ.env 6=.vw 22 s6/\σ.box 22=some ⟨214,1,s6,gE g,true⟩/\σ.env 23=.vw 13 s5/\σ.env 24=.int .i64 ids.length/\σ.env 25=.int .i64 k) (fun σ=>13-BU (σ.env 25)) (AZ _) ?_ ?_
 .exact⟨0,_,_,[],Zs _,rfl,s_,s_,s_,by simp<;>rfl,s_,by simp<;>rfl,s_,s_,s_,s_⟩
 .rintro σ ⟨k,s5,s6,g,hk,hg,hr,e0,e1,e5,b13,e6,K4,e23,e24,e25⟩;by_cases gk:k<ids.length
  .obtain⟨i,hi⟩:∃ i,ids[k]? = some i:=⟨_,Z4 gk⟩;have hi2:=Yu hi;simp[-getElem?_pos,-exists_and_left,-exists_and_right,e0,e1,e5,b13,e6,K4,e23,e24,e25,gk,hi2];refine ZF (fun σ=>∃ (j s9:Nat) (row:List Bool),j<=ids.length/\row.length=j/\σ.env 0=.sl true 35 8 (fE l)/\σ.env 1=.int .i64 lim/\σ.env 5=.vw 13 s5/\σ.box 13=some ⟨3,1,s5,iE ids,true⟩/\σ.env 6=.vw 22 s6/\σ.box 22=some ⟨214,1,s6,gE g,true⟩/\σ.env 7=.int .i64 k/\σ.env 8=.int .i64 i/\σ.env 9=.vw 30 s9/\σ.box 30=some ⟨4,1,s9,kS row,true⟩/\σ.env 23=.vw 13 s5/\σ.env 24=.int .i64 ids.length/\σ.env 25=.int .i64 k/\σ.env 31=.vw 13 s5/\σ.env 32=.int .i64 ids.length/\σ.env 33=.int .i64 j) (fun σ=>13-BU (σ.env 33)) (AZ _) ?_ ?_
   .exact⟨0,_,[],Zs _,rfl,by simp[e0],by simp[e1],by simp[e5],by simp[b13],by simp[e6],by simp[K4],s_,s_,by simp<;>rfl,s_,by simp[e23],by simp[e24],by simp[e25],by simp[e5],s_,s_⟩
   .rintro σ ⟨j,s9,row,hj,hrow,e0,e1,e5,b13,e6,K4,e7,e8,e9,pV,e23,e24,e25,e31,e32,e33⟩;by_cases gj:j<ids.length
    .obtain⟨m,hm⟩:∃ m,ids[j]? = some m:=⟨_,Z4 gj⟩;have hm2:=Yu hm;by_cases hkj:k=j
     .have hn:=ZjI row false;simp[-getElem?_pos,-exists_and_left,-exists_and_right,e0,e1,e5,b13,e6,K4,e7,e8,e9,pV,e23,e24,e25,e31,e32,e33,gj,hm2,hkj]
      ((repeat' with_reducible apply And.intro)<;> try exact Ye);refine BD (AZ _) ⟨j+1,_,row++[false],o_,AR,by simp[e0],by simp[e1],by simp[e5],by simp[b13],by simp[e6],by simp[K4],by simp[e7,hkj],by simp[e8],by simp<;>rfl,by simp[hn],by simp[e23],by simp[e24],by simp[e25,hkj],by simp[e31],by simp[e32],s_⟩ (by simp[e33]<;> omega)
     .have K5:¬(k:Int)=(j:Int):=by omega
      have n2:=Z2S l hf i m lim;simp[-getElem?_pos,-exists_and_left,-exists_and_right,e0,e1,e5,b13,e6,K4,e7,e8,e9,pV,e23,e24,e25,e31,e32,e33,gj,hm2,hkj,K5];refine Zv [] n2 ?_;rintro _ ⟨b,rfl⟩;have hn:=ZjI row b;simp[-getElem?_pos,-exists_and_left,-exists_and_right,e0,e1,e5,b13,e6,K4,e7,e8,e9,pV,e23,e24,e25,e31,e32,e33,gj,hm2,hkj,K5]
      ((repeat' with_reducible apply And.intro)<;> try exact Ye);refine BD (AZ _) ⟨j+1,_,row++[b],o_,AR,by simp[e0],by simp[e1],by simp[e5],by simp[b13],by simp[e6],by simp[K4],by simp[e7],by simp[e8],by simp<;>rfl,by simp[hn],by simp[e23],by simp[e24],by simp[e25],by simp[e31],by simp[e32],s_⟩ (by simp[e33]<;> omega)
    .have hje:j=ids.length:=by omega
     have hn:=Zpg g row;simp[-getElem?_pos,-exists_and_left,-exists_and_right,e0,e1,e5,b13,e6,K4,e7,e8,e9,pV,e23,e24,e25,e31,e32,e33,hje]
     ((repeat' with_reducible apply And.intro)<;> try exact Ye);refine BD (AZ _) ⟨k+1,s5,_,g++[row],o_,AR,Qp hr o_,by simp[e0],by simp[e1],by simp[e5],by simp[b13],by simp<;>rfl,by simp[hn],by simp[e23],by simp[e24],s_⟩ (by simp[e25]<;> omega)
  .obtain rfl:k=ids.length:=by omega
   simp[-getElem?_pos,-exists_and_left,-exists_and_right,e0,e1,e5,b13,e6,K4,e23,e24,e25];refine Zr (r:=.sl false 214 1 (gE g)) ?_ rfl ⟨g,rfl,o_,hr⟩;simp[-getElem?_pos,-exists_and_left,-exists_and_right,e0,e1,e5,b13,e6,K4,e23,e24,e25];exact⟨none,s_⟩
theorem Z1C(l:List A7)(hs:K3 l)(lim:Int):AF prog 62 [.sl true 35 8 (fE l),.int .i64 lim] (fun r=>∃ ids:List Int,r=.sl false 3 1 (iE ids)/\ids.length<=12):=by
 have n0:=YU l hs;have hno:∃ ids:List Int,AV.sl false 3 1 (iE [])=.sl false 3 1 (iE ids)/\ids.length<=12:=⟨[],rfl,s_⟩;cases hf:YW l
 .rw[hf]at n0;refine BI func62 ntmps62 results62 ?_;simp[-getElem?_pos,-exists_and_left,-exists_and_right];refine Ah [] n0 ?_;simp[-getElem?_pos,-exists_and_left,-exists_and_right];refine Zr ?_ rfl hno;simp[-getElem?_pos,-exists_and_left,-exists_and_right]
 rw[hf]at n0;obtain⟨h1,h2,h3⟩:=X5 hf;have n1:=Z1f l hf;refine BI func62 ntmps62 results62 ?_;simp[-getElem?_pos,-exists_and_left,-exists_and_right];refine Ah [] n0 ?_;simp[-getElem?_pos,-exists_and_left,-exists_and_right];refine Zv [] n1 ?_;rintro _ ⟨cf,rfl,hcf⟩;simp[-getElem?_pos,-exists_and_left,-exists_and_right];refine ZF (fun σ=>∃ (k s6:Nat) (rs:List A7),k<=l.length/\rs.length<=k/\K3 rs/\σ.env 1=.int .i64 lim/\σ.env 5=.sl false 3 1 (iE cf)/\σ.env 6=.vw 18 s6/\σ.box 18=some ⟨35,8,s6,fE rs,true⟩/\σ.env 19=.sl true 35 8 (fE l)/\σ.env 20=.int .i64 l.length/\σ.env 21=.int .i64 k) (fun σ=>41-BU (σ.env 21)) (AZ _) ?_ ?_
 .exact⟨0,_,[],Zs _,s_,⟨s_,s_⟩,s_,s_,by simp<;>rfl,s_,s_,s_,s_⟩
 .rintro σ ⟨k,s6,rs,hk,hr,hz,e1,e5,e6,b18,e19,e20,e21⟩;by_cases gk:k<l.length
  .obtain⟨x,hx⟩:∃ x,l[k]? = some x:=⟨_,Z4 gk⟩;have hx2:=RH hx;have hxs:=hs.2 x (Z6 hx);have hz2:K3 (rs++[x]):=⟨AR,Qp hz.2 hxs⟩;have hn:=Zpm rs x;simp only[fA]at hn;by_cases k4:x.kind=4
   .have n2:=Q5 cf x.id o_;cases hd:decide (x.id∈cf)
    .rw[hd]at n2;simp[-getElem?_pos,-exists_and_left,-exists_and_right,e1,e5,e6,b18,e19,e20,e21,gk,hx2,fA,k4];refine Ah [] n2 ?_;simp[-getElem?_pos,-exists_and_left,-exists_and_right,e1,e5,e6,b18,e19,e20,e21,gk,hx2,fA,k4]
     ((repeat' with_reducible apply And.intro)<;> try exact Ye);refine BD (AZ _) ⟨k+1,_,rs++[x],o_,AR,hz2,by simp[e1],by simp[e5],by simp<;>rfl,by simp[<- hn,k4],by simp[e19],by simp[e20],s_⟩ (by simp[e21]<;> omega)
    .rw[hd]at n2;simp[-getElem?_pos,-exists_and_left,-exists_and_right,e1,e5,e6,b18,e19,e20,e21,gk,hx2,fA,k4];refine Ah [] n2 ?_;simp[-getElem?_pos,-exists_and_left,-exists_and_right,e1,e5,e6,b18,e19,e20,e21,gk,hx2,fA,k4]
     ((repeat' with_reducible apply And.intro)<;> try exact Ye);refine BD (AZ _) ⟨k+1,s6,rs,o_,o_,hz,by simp[e1],by simp[e5],by simp[e6],by simp[b18],by simp[e19],by simp[e20],s_⟩ (by simp[e21]<;> omega)
   .simp[-getElem?_pos,-exists_and_left,-exists_and_right,e1,e5,e6,b18,e19,e20,e21,gk,hx2,fA,k4]
    ((repeat' with_reducible apply And.intro)<;> try exact Ye);refine BD (AZ _) ⟨k+1,_,rs++[x],o_,AR,hz2,by simp[e1],by simp[e5],by simp<;>rfl,by simp[<- hn],by simp[e19],by simp[e20],s_⟩ (by simp[e21]<;> omega)
  .obtain rfl:k=l.length:=by omega
   have n2:=Ji rs 4 o_;have n3:=Z1g rs hz o_ lim;obtain⟨ids,Ue⟩:∃ ids,ids=Ia rs 4:=⟨_,rfl⟩;rw[<- Ue]at n2 n3;simp[-getElem?_pos,-exists_and_left,-exists_and_right,e1,e5,e6,b18,e19,e20,e21];refine Ah [] n2 ?_;by_cases h12:12<ids.length
   .have EF:(12:Int)<(ids.length:Int):=by omega
    simp[-getElem?_pos,-exists_and_left,-exists_and_right,e1,e5,e6,b18,e19,e20,e21,h12,EF];refine Zr ?_ rfl hno;simp[-getElem?_pos,-exists_and_left,-exists_and_right]
   have EF:¬(12:Int)<(ids.length:Int):=by omega
   simp[-getElem?_pos,-exists_and_left,-exists_and_right,e1,e5,e6,b18,e19,e20,e21,h12,EF];refine Zv [] n3 ?_;rintro _ ⟨g,rfl,hg,hgr⟩;have n4:=Z6S g o_ hgr;simp[-getElem?_pos,-exists_and_left,-exists_and_right,e1,e5,e6,b18,e19,e20,e21,h12,EF];refine Zv [] n4 ?_;rintro _ ⟨mc,rfl,hm1,hm2⟩;simp[-getElem?_pos,-exists_and_left,-exists_and_right,e1,e5,e6,b18,e19,e20,e21,h12,EF];refine ZF (fun σ=>∃ (k s9 sA:Nat) (ch:List Int),k<=mc.length/\ch.length=k/\σ.env 9=.vw 41 s9/\σ.box 41=some ⟨3,1,s9,iE ids,true⟩/\σ.env 10=.vw 45 sA/\σ.box 45=some ⟨3,1,sA,iE ch,true⟩/\σ.env 49=.sl false 3 1 (iE mc)/\σ.env 50=.int .i64 mc.length/\σ.env 51=.int .i64 k) (fun σ=>13-BU (σ.env 51)) (AZ _) ?_ ?_
   .exact⟨0,_,_,[],Zs _,rfl,by simp<;>rfl,s_,by simp<;>rfl,s_,s_,s_,s_⟩
   .rintro σ ⟨k,s9,sA,ch,hk,hch,e9,pW,eA,b45,e49,e50,e51⟩;by_cases gm:k<mc.length
    .obtain⟨v,hv⟩:∃ v,mc[k]? = some v:=⟨_,Z4 gm⟩;have hv2:=Yu hv;obtain⟨v1,v2⟩:=hm2 v (Z6 hv);obtain⟨v,rfl⟩:=Zl v1;have gv:v<ids.length:=by omega
     obtain⟨u,hu⟩:∃ u,ids[v]? = some u:=⟨_,Z4 gv⟩;have hu2:=Yu hu;have hn:=QH ch u;simp[-getElem?_pos,-exists_and_left,-exists_and_right,e9,pW,eA,b45,e49,e50,e51,gm,hv2,gv,hu2]
     ((repeat' with_reducible apply And.intro)<;> try exact Ye);refine BD (AZ _) ⟨k+1,s9,_,ch++[u],o_,AR,by simp[e9],by simp[pW],by simp<;>rfl,by simp[hn],by simp[e49],by simp[e50],s_⟩ (by simp[e51]<;> omega)
    .obtain rfl:k=mc.length:=by omega
     simp[-getElem?_pos,-exists_and_left,-exists_and_right,e9,pW,eA,b45,e49,e50,e51];refine Zr (r:=.sl false 3 1 (iE ch)) ?_ rfl ⟨ch,rfl,o_⟩;simp[-getElem?_pos,-exists_and_left,-exists_and_right,e9,pW,eA,b45,e49,e50,e51];exact⟨none,s_⟩
theorem Z5J(l:List A7)(hl:l.length<=1000)(ids:List Int)(hi:ids.length<=1000):AF prog 61 [.sl true 35 8 (fE l),.sl true 3 1 (iE ids)] (fun r=>∃ o:List Int,r=.sl false 3 1 (iE o)/\o.length<=1000):=by
 have n0:=Ji l 4 o_;have hlen:=ZfS l 4;generalize Ia l 4=all at *
 refine BI func61 ntmps61 results61 ?_;simp[-getElem?_pos,-exists_and_left,-exists_and_right];refine Ah [] n0 ?_;simp[-getElem?_pos,-exists_and_left,-exists_and_right];refine ZF (fun σ=>∃ (k s5 sA:Nat) (o:List Int),k<=all.length/\o.length<=k/\σ.env 1=.sl true 3 1 (iE ids)/\σ.env 5=.vw 8 s5/\σ.box 8=some ⟨3,1,s5,iE o,true⟩/\σ.env 10=.vw 10 sA/\σ.box 10=some ⟨3,1,sA,iE all,true⟩/\σ.env 11=.int .i64 all.length/\σ.env 12=.int .i64 k) (fun σ=>1001-BU (σ.env 12)) (AZ _) ?_ ?_
 .exact⟨0,_,_,[],Zs _,s_,s_,by simp<;>rfl,s_,by simp<;>rfl,s_,s_,s_⟩
 .rintro σ ⟨k,s5,sA,o,hk,ho,e1,e5,b8,eA,bA,e11,e12⟩;by_cases gk:k<all.length
  .obtain⟨x,hx⟩:∃ x,all[k]? = some x:=⟨_,Z4 gk⟩;have hx2:=Yu hx;have hn:=QH o x;have n1:=Q5 ids x o_;cases hd:decide (x∈ids)
   .rw[hd]at n1;simp[-getElem?_pos,-exists_and_left,-exists_and_right,e1,e5,b8,eA,bA,e11,e12,gk,hx2];refine Ah [] n1 ?_;simp[-getElem?_pos,-exists_and_left,-exists_and_right,e1,e5,b8,eA,bA,e11,e12,gk,hx2]
    ((repeat' with_reducible apply And.intro)<;> try exact Ye);refine BD (AZ _) ⟨k+1,_,sA,o++[x],o_,AR,by simp[e1],by simp<;>rfl,by simp[hn],by simp[eA],by simp[bA],by simp[e11],s_⟩ (by simp[e12]<;> omega)
   .rw[hd]at n1;simp[-getElem?_pos,-exists_and_left,-exists_and_right,e1,e5,b8,eA,bA,e11,e12,gk,hx2];refine Ah [] n1 ?_;simp[-getElem?_pos,-exists_and_left,-exists_and_right,e1,e5,b8,eA,bA,e11,e12,gk,hx2]
    ((repeat' with_reducible apply And.intro)<;> try exact Ye);refine BD (AZ _) ⟨k+1,s5,sA,o,o_,o_,by simp[e1],by simp[e5],by simp[b8],by simp[eA],by simp[bA],by simp[e11],s_⟩ (by simp[e12]<;> omega)
  .obtain rfl:k=all.length:=by omega
   simp[-getElem?_pos,-exists_and_left,-exists_and_right,e1,e5,b8,eA,bA,e11,e12];refine Zr (r:=.sl false 3 1 (iE o)) ?_ rfl ⟨o,rfl,o_⟩;simp[-getElem?_pos,-exists_and_left,-exists_and_right,e1,e5,b8,eA,bA,e11,e12];exact⟨none,s_⟩
theorem Z3y(l:List A7)(hs:K3 l)(hl:l.length<=1000)(lim:Int):AF prog 35 [.sl true 35 8 (fE l),.int .i64 lim] (fun r=>∃ o:List Int,r=.sl false 3 1 (iE o)/\o.length<=1000):=by
 have n0:=Z1C l hs lim;refine BI func35 ntmps35 results35 ?_;simp[-getElem?_pos,-exists_and_left,-exists_and_right];refine Zv [] n0 ?_;rintro _ ⟨ids,rfl,hi⟩;have n1:=Z5J l hl ids o_;simp[-getElem?_pos,-exists_and_left,-exists_and_right];refine Zv [] n1 ?_;rintro _ ⟨o,rfl,ho⟩;simp[-getElem?_pos,-exists_and_left,-exists_and_right];refine Zr (r:=.sl false 3 1 (iE o)) ?_ rfl ⟨o,rfl,ho⟩;simp[-getElem?_pos,-exists_and_left,-exists_and_right]
theorem Z6Q(l:List A7)(hs:K3 l)(hl:l.length<=1000)(lim:Int):AF prog 12 [.sl true 35 8 (fE l),.int .i64 lim] ZkW:=by
 have n0:=Z3y l hs hl lim;refine BI func12 ntmps12 results12 ?_;simp[-getElem?_pos,-exists_and_left,-exists_and_right];refine Zv [] n0 ?_;rintro _ ⟨o,rfl,ho⟩;have n1:=Z8y l hs o ho;simp[-getElem?_pos,-exists_and_left,-exists_and_right];refine Zv [] n1 ?_;rintro _ ⟨ps,q,ok,rfl,gp,gq,hp⟩;simp[-getElem?_pos,-exists_and_left,-exists_and_right,dQ];refine Zr (r:=.tup [.sl false 89 6 (EN ps),.agg (dQ q),.bool ok]) ?_ rfl ⟨ps,q,ok,rfl,gp,gq,hp⟩;simp[-getElem?_pos,-exists_and_left,-exists_and_right,dQ]
theorem Z5I(l:List Pt)(hl:l.length<=1000)(g:∀ p∈l,Kw p):Spec prog 15 [.sl true 89 6 (EN l),.sl true 89 6 (EN l)] (.bool true):=by
 refine Bj func15 ntmps15 results15 ?_;simp[-getElem?_pos,-exists_and_left,-exists_and_right];refine ZF (fun σ=>∃ k:Nat,k<=l.length/\σ.env 1=.sl true 89 6 (EN l)/\σ.env 12=.sl true 89 6 (EN l)/\σ.env 13=.int .i64 l.length/\σ.env 14=.int .i64 k) (fun σ=>1001-BU (σ.env 14)) (AZ _) ?_ ?_
 .exact⟨0,Zs _,s_,s_,s_,s_⟩
 .rintro σ ⟨k,hk,e1,e12,e13,e14⟩;by_cases gk:k<l.length
  .obtain⟨x,hx⟩:∃ x,l[k]? = some x:=⟨_,Z4 gk⟩;have hx2:=Zec hx;obtain⟨g1,g2⟩:=g x (Z6 hx);have n1:=Xy x.x x.x g1 g1;have n2:=Xy x.y x.y g2 g2;simp only[decide_true]at n1 n2;simp[-getElem?_pos,-exists_and_left,-exists_and_right,e1,e12,e13,e14,gk,hx2,Dx];refine Ah [] n1 ?_;simp[-getElem?_pos,-exists_and_left,-exists_and_right,e1,e12,e13,e14,gk,hx2,Dx];refine Ah [] n2 ?_;simp[-getElem?_pos,-exists_and_left,-exists_and_right,e1,e12,e13,e14,gk,hx2,Dx]
   ((repeat' with_reducible apply And.intro)<;> try exact Ye);refine BD (AZ _) ⟨k+1,o_,by simp[e1],by simp[e12],by simp[e13],s_⟩ (by simp[e14]<;> omega)
  .obtain rfl:k=l.length:=by omega
   simp[-getElem?_pos,-exists_and_left,-exists_and_right,e1,e12,e13,e14]
def Ro(w:World)(v:Value)(d:AV):Prop:=Au (fun g=>g<w.heap.size) w v d
theorem Ro.below{w:World}{v:Value}{d:AV}(h:Ro w v d)(hb:Below w.heap.size w w'):Ro w' v d :=
 Au.keep (fun g hg=>hb.block g hg) (fun g hg=>Nat.lt_of_lt_of_le hg hb.size) h
theorem Zp2(w:World)(F:Nat->Prop){g:Nat}(h:g<w.heap.size):(Hy w F).S w g:=⟨h,fun⟨id,b,hb,_⟩=>by cases hb⟩
theorem Ro.Dc{w:World}{v:Value}{d:AV}(h:Ro w v d):Au ((Hy w fun _=>True).R w) w v d :=
 Au.keep (fun g hg=>rfl) (fun g hg=>⟨Zp2 w _ hg,fun _=>trivial⟩) h
theorem Z8Y{m:Mem}{w:World}{v:Value}{d:AV}(h:Au (m.R w) w v d):Ro w v d :=
 Au.keep (fun g hg=>rfl) (fun g hg=>hg.1.1) h
theorem Ro.arg{w:World}{v:Value}{E:TypeId}{sz:Nat}{els:List (List AV)}(h:Ro w v (.sl false E sz els)):Ez (Hy w fun _=>True) w v (.sl true E sz els):=
 eT (d:=.sl false E sz els) (e:=.sl true E sz els) (show BB (Hy w fun _=>True) w v (.sl false E sz els)from h.Dc) (.inr (.inl ⟨E,sz,els,rfl,rfl⟩))
theorem Ro.own{w:World}{B:Nat}{E:TypeId}{sz:Nat}{A:Option Addr}{n c:Nat}{els:List (List AV)}(h:Own w B E sz A n c (els.map Gq))(hs:∀ ds∈els,ds.all EL=true):Ro w (.slice A n c) (.sl false E sz els):=by
 have hlen:(els.map Gq).length=els.length:=by simp
 refine Au.sl A n c E sz els (els.map Gq) ⟨h.row,fun p hp=>?_,?_,hlen,fun i cs ds h1 h2=>?_⟩ fun i j cs ds v d h1 h2 h3 h4=>?_
 .rcases h.own.2 with⟨hv,_⟩|⟨g,cap,cur,hv,hb,hg,_⟩
  .simp only[Value.slice.injEq]at hv;rw[hv.1]at hp;cases hp
  .have hlt:=(h.lt g (by simp only[Value.slice.injEq]at hv;rw[hv.1];rfl)).2;simp only[Value.slice.injEq]at hv;rw[hv.1]at hp;cases hp;exact⟨hlt,_,_,hg⟩
 .rcases h.cases with⟨h1,h2,h3,_⟩|⟨g,h1,_,_,h2,h3⟩
  .exact .inl ⟨h1,h2,h3⟩
  .exact .inr ⟨g,0,h1,h2,h3⟩
 .have e:=h.each cs (Z6 h1);rw[ZH,h2]at h1;have e1:=Z7 h1;subst e1;refine⟨e,?_⟩;unfold Gq at e;simpa using e
 .rw[ZH,h2]at h1;have e1:=Z7 h1;subst e1;unfold Gq at h3;rw[ZH,h4]at h3;have e2:=Z7 h3;subst e2;exact Zfn (List.all_eq_true.1 (hs ds (Z6 h2)) d (Z6 h4)) _ _
theorem Ro.slice{w:World}{v:Value}{E:TypeId}{sz:Nat}{els:List (List AV)}(h:Ro w v (.sl false E sz els)):∃ A n c,v=.slice A n c:=by
 cases h with
 |sl A n c _ _ _ css _ _=>exact⟨A,n,c,rfl⟩
theorem Z9U{w:World}{F:Nat->Prop}{v:Value}{r:AV}(h:TG w F w' v r)(hn:N7 r=none):∃ m:Mem,XQ m w' v r:=by
 obtain⟨m,_,_,_,_,hr⟩:=h;rw[nE hn]at hr;exact⟨m,hr⟩
structure RU(w:World)(b:Bool)(v1 v2:Value)(q:Rt):Prop where
 sg:b=decide (q.num<0)
 n:Ro w v1 (.sl false 3 1 (iE (Zz q.num.natAbs)))
 d:Ro w v2 (.sl false 3 1 (iE (Zz q.den)))
theorem RU.below{w:World}{b:Bool}{q:Rt}(h:RU w b v1 v2 q)(hb:Below w.heap.size w w'):RU w' b v1 v2 q:=⟨h.sg,h.n.below hb,h.d.below hb⟩
theorem Zlv(l:List A7)(hf:YW l=true):∃ (ps:List Pt) (q:Rt) (ok:Bool),(∀ p∈ps,Kw p)/\Bq q/\ps.length<=10 /\
  ∀ (v:Sv) (w:World),BR w v l->Calls prog 12 #[.slice v.A v.n v.c,.int .i64 3] w fun e w' =>
   ∃ (A:Option Addr) (n c:Nat) (b:Bool) (A1:Option Addr) (n1 c1:Nat) (A2:Option Addr) (n2 c2:Nat),e=.returned (.tuple #[.slice A n c,.agg #[.bool b,.slice A1 n1 c1,.slice A2 n2 c2],.bool ok])/\
    Ro w' (.slice A n c) (.sl false 89 6 (EN ps))/\RU w' b (.slice A1 n1 c1) (.slice A2 n2 c2) q/\Below w.heap.size w w':=by
 obtain⟨r,⟨ps,q,ok,rfl,gp,gq,hp⟩,hok,_,hS⟩:=Z6Q l (VE hf) (by have:=(X5 hf).1;omega) 3;refine⟨ps,q,ok,gp,gq,hp,fun v w ho=>?_⟩;have h0:Ro w (.slice v.A v.n v.c) (.sl false 35 8 (fE l)):=Ro.own (by rw[Zii];exact ho.own) (ZnG l);refine(hS w (fun _=>True) [.slice v.A v.n v.c,.int .i64 3] rfl fun j x d h1 h2=>?_).mono fun e w' he=>?_
 .match j with
  |0 =>
   simp at h1 h2;subst h1;subst h2;exact h0.arg
  |1 =>
   simp at h1 h2;subst h1;subst h2;exact Au.int .i64 3
  |j+2=>simp at h1
 .obtain⟨x,rfl,hr,hb⟩:=he;obtain⟨m,hv⟩:=Z9U hr rfl;obtain⟨vs,rfl,hl,hat⟩:=hv;match vs,hl,hat with
  |[x0,x1,x2],_,hat =>
   have q0:=Z8Y (m:=m) (hat 0 x0 _ rfl rfl);obtain⟨A,n,c,rfl⟩:=q0.slice;have q2:Au (m.R w') w' x2 (.bool ok):=hat 2 x2 _ rfl rfl;have e2:x2=.bool ok:=by cases q2;rfl
   subst e2;obtain⟨vs1,rfl,hl1,GZ⟩:=(show Ez m w' x1 (.agg (dQ q))from hat 1 x1 _ rfl rfl);match vs1,hl1,GZ with
   |[y0,y1,y2],_,GZ =>
    have p0:Au (m.R w') w' y0 (.bool (decide (q.num<0))):=GZ 0 y0 _ rfl rfl;have e0:y0=.bool (decide (q.num<0)):=by cases p0;rfl
    subst e0;have p1:=Z8Y (m:=m) (GZ 1 y1 (.sl false 3 1 (iE (Zz q.num.natAbs))) rfl rfl);have p2:=Z8Y (m:=m) (GZ 2 y2 (.sl false 3 1 (iE (Zz q.den))) rfl rfl);obtain⟨A1,n1,c1,rfl⟩:=p1.slice;obtain⟨A2,n2,c2,rfl⟩:=p2.slice;exact⟨A,n,c,_,A1,n1,c1,A2,n2,c2,rfl,q0,⟨rfl,p1,p2⟩,hb⟩
theorem Zgg{w:World}{F:Nat->Prop}{v:Value}{b:Bool}(h:TG w F w' v (.bool b)):v=.bool b:=by
 obtain⟨m,hv⟩:=Z9U h rfl;exact Jt hv
theorem Zcy(ps:List Pt)(hl:ps.length<=10)(g:∀ p∈ps,Kw p)(x y:Value)(w:World)(hx:Ro w x (.sl false 89 6 (EN ps)))(hy:Ro w y (.sl false 89 6 (EN ps))):
  Calls prog 15 #[x,y] w fun e w'=>e=QM true/\Below w.heap.size w w':=by
 obtain⟨_,_,hS⟩:=Z5I ps o_ g;refine(hS w (fun _=>True) [x,y] rfl fun j z d h1 h2=>?_).mono fun e w' he=>?_
 .match j with
  |0=>simp at h1 h2;subst h1;subst h2;exact hx.arg
  |1=>simp at h1 h2;subst h1;subst h2;exact hy.arg
  |j+2=>simp at h1
 .obtain⟨v,rfl,hr,hb⟩:=he;rw[Zgg hr];exact⟨rfl,hb⟩
theorem RU.arg{w:World}{b:Bool}{q:Rt}(h:RU w b v1 v2 q):Ez (Hy w fun _=>True) w (.agg #[.bool b,v1,v2]) (.agg (dQ q)):=by
 refine⟨[.bool b,v1,v2],rfl,rfl,fun j x d h1 h2=>?_⟩;match j with
 |0=>simp[dQ]at h1 h2;subst h1;subst h2;rw[h.sg];exact Au.bool _
 |1=>simp[dQ]at h1 h2;subst h1;subst h2;exact h.n.Dc
 |2=>simp[dQ]at h1 h2;subst h1;subst h2;exact h.d.Dc
 |j+3=>simp at h1
theorem ZiO(q:Rt)(g:Bq q)(b b':Bool)(v1 v2 u1 u2:Value)(w:World)(hx:RU w b v1 v2 q)(hy:RU w b' u1 u2 q):
  Calls prog 16 #[.agg #[.bool b,v1,v2],.agg #[.bool b',u1,u2]] w fun e w'=>e=QM true/\Below w.heap.size w w':=by
 have n0:=Xy q q g g;simp only[decide_true]at n0;obtain⟨_,_,hS⟩:=n0;refine(hS w (fun _=>True) [.agg #[.bool b,v1,v2],.agg #[.bool b',u1,u2]] rfl fun j z d h1 h2=>?_).mono fun e w' he=>?_
 .match j with
  |0=>simp at h1 h2;subst h1;subst h2;exact hx.arg
  |1=>simp at h1 h2;subst h1;subst h2;exact hy.arg
  |j+2=>simp at h1
 .obtain⟨v,rfl,hr,hb⟩:=he;rw[Zgg hr];exact⟨rfl,hb⟩
section
open Go.ChangeShapes Go.WideShapes Go.ChangeAt Go.RowKit
set_option linter.unusedVariables false
theorem Z5P{H:Type}{enc:TypeId×Value->H}{a:Assume}{C:Go.Checked}{os:Os}{f:FuncId}{fn:Func}{s:ChangeSpec}{conds:List PathCond}{apart fresh handsOn again:Bool}{X:World->Array Value->Prop} 
  (hX:∀ (w w':World) (args:Array Value),w.heap=w'.heap->X w args->X w' args)
  (own:ownKnob C.prog.godebug=none) (started:os.Started) (noInit:C.prog.inits.idxOf? f=none) (hfn:C.prog.funcs[f]? = some fn)
  (witness:∃ (w:World) (tape:Tape) (i:Input),w.os=os/\(w.forCall tape i).Shaped C.prog/\i.vars=[]/\Input.okWide C.prog (w.forCall tape i) .any w.heap.size f i /\
   ((s.pre enc C.prog fn conds apart (w.forCall tape i).memory i.args/\X (w.forCall tape i).memory i.args)/\sizedMet enc C.prog fn (OpenSpec.ofChange s) apart (w.forCall tape i).memory i.args)/\a.holds C.prog (lone (Frame.enter C.prog f i.args .normal) [] (w.forCall tape i)))
  (contract:∀ (W:World) (base:Nat) (args:Array Value) (ds gs:List (DataW H)) (before:List MemPlace),
   (∀ (j:Nat) t v,fn.params[j]? = some t->args[j]? = some v->Value.okWide C.prog W .any base t v)->
   DataW.Whole enc C.prog fn.params.toList s.vars apart W args.toList ds gs before->X W args->W.ShapedOpen C.prog ->
   Calls C.prog f args W fun e W'=>∃ v,e=.returned v/\s.post enc C.prog fn apart fresh handsOn again W args v W'):
  ReturnsInHanded a C os f .any (fun w args=>(s.pre enc C.prog fn conds apart w args/\X w args)/\sizedMet enc C.prog fn (OpenSpec.ofChange s) apart w args) (s.post enc C.prog fn apart fresh handsOn again):=by
 refine returnsInHanded_of_calls own started noInit witness ?_;intro w tape i _ hsh _ hok hpre _;obtain⟨_,_,_,fn',hfn',_,_,_,_,hval⟩:=hok;have e:fn'=fn:=Z7 (hfn'.symm.trans hfn);subst e;obtain⟨⟨⟨ds,gs,before,hw,_⟩,hx⟩,_⟩:=hpre;have hw':=DataW.Whole.of_heap (w':=w.forCall tape i) (by rfl) hw;refine(contract (w.forCall tape i) w.heap.size i.args ds gs before hval hw' (hX _ _ _ (by rfl) hx) hsh).mono fun e W' ⟨v,he,hp⟩=>?_
 subst he;exact ChangeSpec.post_blind hp
theorem Zoo{W:World}(h:laidMetH prog UO W)(hs:W.ShapedOpen prog):Ed W :=
 ⟨Zcb h,cell_of_shapedOpen_int (zero:=#[.int .i64 0]) (t:=3) hs (of_decide_eq_true BC) BC rfl BC BC underlying3⟩
end
end Go.Proofs.YtcnbphnnfmphlaaGreatDoor
