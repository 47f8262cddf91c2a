/- Texts of this proof. -/
import Derived.Test.YtcnbphnnfmphlaaGreatDoorGtm33
namespace Go.Proofs.YtcnbphnnfmphlaaGreatDoor
open Bool renaming exists_bool → Z3
open Int renaming eq_ofNat_of_zero_le → Zl
open _root_.List renaming getElem?_eq_getElem → Z4,mem_of_getElem? → Z6
open Nat renaming zero_le → Zs
open Go.Proofs.Tryz
open Go.RowKit
set_option linter.unusedVariables false
set_option linter.unusedSimpArgs false
set_option maxHeartbeats 4000000
set_option maxRecDepth 100000
theorem Z5G(l:List A7)(id:Int)(hl:l.length<=100000):AF prog 46 [.sl true 35 8 (fE l),.int .i64 id] (fun r=>∃ n:Int,r=.int .i64 n/\-1<=n/\n<l.length):=by
 refine BI func46 ntmps46 results46 ?_;simp -implicitDefEqProofs [-getElem?_pos,-exists_and_left,-exists_and_right,-Z3];refine ZF (fun σ=>∃ k:Nat,k<=l.length/\σ.env 1=.int .i64 id/\σ.env 7=.sl true 35 8 (fE l)/\σ.env 8=.int .i64 l.length/\σ.env 9=.int .i64 k) (fun σ=>100001-BU (σ.env 9)) (AZ _) ?_ ?_
 .exact⟨0,Zs _,s_⟩
 .rintro σ ⟨k,hk,E⟩;by_cases gk:k<l.length
  .obtain⟨x,hx⟩:∃ x,l[k]? = some x:=⟨_,Z4 gk⟩;have hx2:=RH hx;by_cases g:x.id=id
   .simp -implicitDefEqProofs [-getElem?_pos,-exists_and_left,-exists_and_right,-Z3,E,gk,hx2,fA,g];refine Zr (r:=.int .i64 k) ?_ rfl ⟨k,rfl,o_,o_⟩;simp -implicitDefEqProofs [-getElem?_pos,-exists_and_left,-exists_and_right,-Z3,E,gk,hx2,fA,g]
   .simp -implicitDefEqProofs [-getElem?_pos,-exists_and_left,-exists_and_right,-Z3,E,gk,hx2,fA,g]
    ((repeat' with_reducible apply And.intro)<;> try exact Ye);refine BD (AZ _) ⟨k+1,o_,by simp[E]⟩ (by simp[E];omega)
  .obtain rfl:k=l.length:=by omega
   simp -implicitDefEqProofs [-getElem?_pos,-exists_and_left,-exists_and_right,-Z3,E];refine Zr (r:=.int .i64 (-1)) ?_ rfl ⟨-1,rfl,o_,o_⟩;simp -implicitDefEqProofs [-getElem?_pos,-exists_and_left,-exists_and_right,-Z3]
def Ia(l:List A7)(kind:Int):List Int:=(l.filter fun f=>decide (f.kind=kind)).map (·.id)
theorem ZjY{l:List A7}{k:Nat}{x:A7}{kind:Int}(h:l[k]? = some x):Ia (l.take (k+1)) kind=Ia (l.take k) kind++(if x.kind=kind then [x.id]else []):=by
 unfold Ia;rw[QI h,List.filter_append,List.map_append];by_cases g:x.kind=kind<;>simp[-getElem?_pos,-exists_and_left,-exists_and_right,-Z3,g]
theorem ZfS(l:List A7)(kind:Int):(Ia l kind).length<=l.length:=by
 unfold Ia;rw[List.length_map];exact List.length_filter_le _ _
theorem Ji(l:List A7)(kind:Int)(hl:l.length<=100000):Spec prog 91 [.sl true 35 8 (fE l),.int .i64 kind] (.own 3 1 (iE (Ia l kind))):=by
 refine Bj func91 ntmps91 results91 ?_;simp -implicitDefEqProofs [-getElem?_pos,-exists_and_left,-exists_and_right,-Z3];refine ZF (fun σ=>∃ k st:Nat,k<=l.length/\σ.env 1=.int .i64 kind/\σ.env 5=.vw 8 st/\σ.box 8=some ⟨3,1,st,iE (Ia (l.take k) kind),true⟩/\σ.env 9=.sl true 35 8 (fE l)/\σ.env 10=.int .i64 l.length/\σ.env 11=.int .i64 k) (fun σ=>100001-BU (σ.env 11)) (AZ _) ?_ ?_
 .exact⟨0,_,Zs _,s_,by simp;rfl,by simp[Ia]⟩
 .rintro σ ⟨k,st,hk,E⟩;have b8:=E.2.2.1;by_cases gk:k<l.length
  .obtain⟨x,hx⟩:∃ x,l[k]? = some x:=⟨_,Z4 gk⟩;have hx2:=RH hx;have hstep:=ZjY (kind:=kind) hx;by_cases g:x.kind=kind
   .rw[if_pos g]at hstep;have hn:iE (Ia (l.take k) kind)++[[.int .i64 x.id]]=iE (Ia (l.take (k+1)) kind):=by rw[QH,hstep]
    have hlen:(iE (Ia (l.take k) kind)).length<=k:=by rw[ZjZ];have:=ZfS (l.take k) kind;simp at this;omega
    generalize iE (Ia (l.take k) kind)=E0 at *
    simp -implicitDefEqProofs [-getElem?_pos,-exists_and_left,-exists_and_right,-Z3,E,gk,hx2,fA,g]
    ((repeat' with_reducible apply And.intro)<;> try exact Ye);refine BD (AZ _) ⟨k+1,_,o_,by simp[E],by simp;rfl,by simp[hn,E]⟩ (by simp[E];omega)
   .rw[if_neg g,List.append_nil]at hstep;simp -implicitDefEqProofs [-getElem?_pos,-exists_and_left,-exists_and_right,-Z3,E,gk,hx2,fA,g]
    ((repeat' with_reducible apply And.intro)<;> try exact Ye);refine BD (AZ _) ⟨k+1,_,o_,by simp[E],by simp[E];rfl,by simp[E,hstep]⟩ (by simp[E];omega)
  .obtain rfl:k=l.length:=by omega
   rw[List.take_length]at b8;simp -implicitDefEqProofs [-getElem?_pos,-exists_and_left,-exists_and_right,-Z3,E]
theorem Qe(l:List A7)(hf:YW l=true)(s:ByteArray):AF prog 215 [.sl true 35 8 (fE l),.str s] (fun r=>∃ (z:AX) (ok:Bool),r=.tup [.agg (Bp z),.bool ok]):=by
 have hs:=VE hf;obtain⟨h1,h2,h3⟩:=X5 hf;have n0:=Z2R l hs;have n1:=Vx l hs;have n2:=YD (Yk l) s o_;refine BI func215 ntmps215 results215 ?_;simp -implicitDefEqProofs [-getElem?_pos,-exists_and_left,-exists_and_right,-Z3];refine Zv [] n0 ?_;rintro _ ⟨at_,kn,rfl,hl,hk⟩;simp -implicitDefEqProofs [-getElem?_pos,-exists_and_left,-exists_and_right,-Z3];refine Ah [] n1 ?_;simp -implicitDefEqProofs [-getElem?_pos,-exists_and_left,-exists_and_right,-Z3];refine Zv [] n2 ?_;rintro _ ⟨a,rfl,a1,a2,_⟩;by_cases g1:a<0
 .simp -implicitDefEqProofs [-getElem?_pos,-exists_and_left,-exists_and_right,-Z3,g1];refine Zr (r:=.tup [.agg (Bp zP),.bool false]) ?_ rfl ⟨zP,false,rfl⟩;simp -implicitDefEqProofs [-getElem?_pos,-exists_and_left,-exists_and_right,-Z3,g1,Bp,zP]
 obtain⟨a,rfl⟩:=Zl (show 0<=a by omega);by_cases g2:a<kn.length
 .have g3:a<at_.length:=by omega
  have g4:(at_.length<=a)=False:=eq_false o_;have g5:(kn.length<=a)=False:=eq_false o_;obtain⟨y,hy⟩:∃ y,kn[a]? = some y:=⟨_,Z4 g2⟩;obtain⟨p,hp⟩:∃ p,at_[a]? = some p:=⟨_,Z4 g3⟩;have hy2:=VD hy;have hp2:=pF hp;cases y
  .simp -implicitDefEqProofs [-getElem?_pos,-exists_and_left,-exists_and_right,-Z3,g1,g2,g3,g4,g5,hl,hy2,hp2,Bp];refine Zr (r:=.tup [.agg (Bp zP),.bool false]) ?_ rfl ⟨zP,false,rfl⟩;simp -implicitDefEqProofs [-getElem?_pos,-exists_and_left,-exists_and_right,-Z3,g1,Bp,zP]
  .simp -implicitDefEqProofs [-getElem?_pos,-exists_and_left,-exists_and_right,-Z3,g1,g2,g3,g4,g5,hl,hy2,hp2,Bp];refine Zr (r:=.tup [.agg (Bp p),.bool true]) ?_ rfl ⟨p,true,rfl⟩;simp -implicitDefEqProofs [-getElem?_pos,-exists_and_left,-exists_and_right,-Z3,g1,Bp,zP]
 .have g5:kn.length<=a:=by omega
  simp -implicitDefEqProofs [-getElem?_pos,-exists_and_left,-exists_and_right,-Z3,g1,g2,g5,hl];refine Zr (r:=.tup [.agg (Bp zP),.bool false]) ?_ rfl ⟨zP,false,rfl⟩;simp -implicitDefEqProofs [-getElem?_pos,-exists_and_left,-exists_and_right,-Z3,g1,Bp,zP]
def zF:A7:=⟨0,0,⟨#[]⟩,⟨#[]⟩,zP,0⟩
theorem Z4E(l:List A7)(hf:YW l=true)(id:Int):AF prog 214 [.sl true 35 8 (fE l),.int .i64 id] (fun r=>∃ (f:A7) (ok:Bool),r=.tup [.agg (fA f),.bool ok]):=by
 have hs:=VE hf;have n0:=YU l hs;rw[hf]at n0;obtain⟨h1,h2,h3⟩:=X5 hf;have n1:=Z5G l id o_;refine BI func214 ntmps214 results214 ?_;simp -implicitDefEqProofs [-getElem?_pos,-exists_and_left,-exists_and_right,-Z3];refine Zv [] n1 ?_;rintro _ ⟨a,rfl,a1,a2⟩;simp -implicitDefEqProofs [-getElem?_pos,-exists_and_left,-exists_and_right,-Z3];refine Ah [] n0 ?_;by_cases g1:a<0
 .simp -implicitDefEqProofs [-getElem?_pos,-exists_and_left,-exists_and_right,-Z3,g1];refine Zr (r:=.tup [.agg (fA zF),.bool false]) ?_ rfl ⟨zF,false,rfl⟩;simp -implicitDefEqProofs [-getElem?_pos,-exists_and_left,-exists_and_right,-Z3,g1,fA,zF,zP]
 obtain⟨a,rfl⟩:=Zl (show 0<=a by omega);have ga:a<l.length:=by omega
 obtain⟨x,hx⟩:∃ x,l[a]? = some x:=⟨_,Z4 ga⟩;have hx2:=RH hx;by_cases k4:x.kind=4
 .have n2:=Qe l hf x.AL;have n3:=Qe l hf x.Z00;simp -implicitDefEqProofs [-getElem?_pos,-exists_and_left,-exists_and_right,-Z3,g1,ga,hx2,fA,k4];refine Zv [] n2 ?_;rintro _ ⟨p,ok,rfl⟩;simp -implicitDefEqProofs [-getElem?_pos,-exists_and_left,-exists_and_right,-Z3,g1,ga,hx2,fA,k4,Bp];refine Zv [] n3 ?_;rintro _ ⟨q,ok2,rfl⟩;cases ok
  .simp -implicitDefEqProofs [-getElem?_pos,-exists_and_left,-exists_and_right,-Z3,g1,ga,hx2,fA,k4,Bp];refine Zr (r:=.tup [.agg (fA zF),.bool false]) ?_ rfl ⟨zF,false,rfl⟩;simp -implicitDefEqProofs [-getElem?_pos,-exists_and_left,-exists_and_right,-Z3,g1,fA,zF,zP]
  .cases ok2
   .simp -implicitDefEqProofs [-getElem?_pos,-exists_and_left,-exists_and_right,-Z3,g1,ga,hx2,fA,k4,Bp];refine Zr (r:=.tup [.agg (fA zF),.bool false]) ?_ rfl ⟨zF,false,rfl⟩;simp -implicitDefEqProofs [-getElem?_pos,-exists_and_left,-exists_and_right,-Z3,g1,fA,zF,zP]
   .simp -implicitDefEqProofs [-getElem?_pos,-exists_and_left,-exists_and_right,-Z3,g1,ga,hx2,fA,k4,Bp];refine Zr (r:=.tup [.agg (fA x),.bool true]) ?_ rfl ⟨x,true,rfl⟩;simp -implicitDefEqProofs [-getElem?_pos,-exists_and_left,-exists_and_right,-Z3,g1,fA,k4]
 .simp -implicitDefEqProofs [-getElem?_pos,-exists_and_left,-exists_and_right,-Z3,g1,ga,hx2,fA,k4];refine Zr (r:=.tup [.agg (fA zF),.bool false]) ?_ rfl ⟨zF,false,rfl⟩;simp -implicitDefEqProofs [-getElem?_pos,-exists_and_left,-exists_and_right,-Z3,g1,fA,zF,zP]
theorem Z6T(l:List A7)(hf:YW l=true)(i j:Int):AF prog 194 [.sl true 35 8 (fE l),.int .i64 i,.int .i64 j] (fun r=>∃ (z:AX) (ok:Bool),r=.tup [.agg (Bp z),.bool ok]/\VP z):=by
 have hno:∃ (z:AX) (ok:Bool),AV.tup [.agg (Bp zP),.bool false]=.tup [.agg (Bp z),.bool ok]/\VP z:=⟨zP,false,rfl,fU⟩;have n1:=Z4E l hf i;have n2:=Z4E l hf j;refine BI func194 ntmps194 results194 ?_;simp -implicitDefEqProofs [-getElem?_pos,-exists_and_left,-exists_and_right,-Z3];refine Zv [] n1 ?_;rintro _ ⟨f,ok,rfl⟩;simp -implicitDefEqProofs [-getElem?_pos,-exists_and_left,-exists_and_right,-Z3,fA];refine Zv [] n2 ?_;rintro _ ⟨g,ok2,rfl⟩;cases ok
 .simp -implicitDefEqProofs [-getElem?_pos,-exists_and_left,-exists_and_right,-Z3,fA];refine Zr ?_ rfl hno;simp -implicitDefEqProofs [-getElem?_pos,-exists_and_left,-exists_and_right,-Z3,Bp,zP]
 cases ok2
 .simp -implicitDefEqProofs [-getElem?_pos,-exists_and_left,-exists_and_right,-Z3,fA];refine Zr ?_ rfl hno;simp -implicitDefEqProofs [-getElem?_pos,-exists_and_left,-exists_and_right,-Z3,Bp,zP]
 have m1:=Qe l hf f.AL;have m2:=Qe l hf f.Z00;have m3:=Qe l hf g.AL;have m4:=Qe l hf g.Z00;simp -implicitDefEqProofs [-getElem?_pos,-exists_and_left,-exists_and_right,-Z3,fA];refine Zv [] m1 ?_;rintro _ ⟨pa,o1,rfl⟩;simp -implicitDefEqProofs [-getElem?_pos,-exists_and_left,-exists_and_right,-Z3,fA,Bp];refine Zv [] m2 ?_;rintro _ ⟨pb,o2,rfl⟩;simp -implicitDefEqProofs [-getElem?_pos,-exists_and_left,-exists_and_right,-Z3,fA,Bp];refine Zv [] m3 ?_;rintro _ ⟨pc,o3,rfl⟩;simp -implicitDefEqProofs [-getElem?_pos,-exists_and_left,-exists_and_right,-Z3,fA,Bp];refine Zv [] m4 ?_;rintro _ ⟨pd,o4,rfl⟩;have i1:=J3 pb;have i2:=J3 pc;simp -implicitDefEqProofs [-getElem?_pos,-exists_and_left,-exists_and_right,-Z3,fA,Bp];refine Zv [] i1 ?_;rintro _ ⟨z1,rfl,_⟩;have c1:=QD z1 pd;simp -implicitDefEqProofs [-getElem?_pos,-exists_and_left,-exists_and_right,-Z3,fA,Bp];refine Zv [] c1 ?_;rintro _ ⟨th,ot,rfl,_⟩;simp -implicitDefEqProofs [-getElem?_pos,-exists_and_left,-exists_and_right,-Z3,fA,Bp];refine⟨EM BC,?_⟩;refine Zv [] i2 ?_;rintro _ ⟨z2,rfl,_⟩;have c2:=QD z2 pa;simp -implicitDefEqProofs [-getElem?_pos,-exists_and_left,-exists_and_right,-Z3,fA,Bp];refine Zv [] c2 ?_;rintro _ ⟨bk,obk,rfl,_⟩;simp -implicitDefEqProofs [-getElem?_pos,-exists_and_left,-exists_and_right,-Z3,fA,Bp];refine⟨EM BC,?_⟩;cases ot
 .simp -implicitDefEqProofs [-getElem?_pos,-exists_and_left,-exists_and_right,-Z3,fA,Bp];refine Zr ?_ rfl hno;simp -implicitDefEqProofs [-getElem?_pos,-exists_and_left,-exists_and_right,-Z3,Bp,zP]
 cases obk
 .simp -implicitDefEqProofs [-getElem?_pos,-exists_and_left,-exists_and_right,-Z3,fA,Bp];refine Zr ?_ rfl hno;simp -implicitDefEqProofs [-getElem?_pos,-exists_and_left,-exists_and_right,-Z3,Bp,zP]
 have i3:=J3 g.Af;simp -implicitDefEqProofs [-getElem?_pos,-exists_and_left,-exists_and_right,-Z3,fA,Bp];refine Zv [] i3 ?_;rintro _ ⟨z3,rfl,_⟩;have c3:=Z3A [f.Af,th,z3,bk] s_;simp -implicitDefEqProofs [-getElem?_pos,-exists_and_left,-exists_and_right,-Z3,fA,Bp];refine⟨rfl,?_⟩;refine Zv [] c3 ?_;rintro _ ⟨z,ok,rfl,hz⟩;simp -implicitDefEqProofs [-getElem?_pos,-exists_and_left,-exists_and_right,-Z3,fA,Bp]
 ((repeat' with_reducible apply And.intro)<;> try exact Ye);refine Zr (r:=.tup [.agg (Bp z),.bool ok]) ?_ rfl ⟨z,ok,rfl,hz⟩;simp -implicitDefEqProofs [-getElem?_pos,-exists_and_left,-exists_and_right,-Z3,Bp]
theorem Z3B(l:List A7)(hf:YW l=true)(i j:Int):AF prog 171 [.sl true 35 8 (fE l),.int .i64 i,.int .i64 j] (fun r=>∃ n:Int,r=.int .i64 n):=by
 have n1:=Z6T l hf i j;refine BI func171 ntmps171 results171 ?_;simp -implicitDefEqProofs [-getElem?_pos,-exists_and_left,-exists_and_right,-Z3];refine Zv [] n1 ?_;rintro _ ⟨z,ok,rfl,hz⟩;obtain⟨z1,z2,z3⟩:=hz;cases ok
 .simp -implicitDefEqProofs [-getElem?_pos,-exists_and_left,-exists_and_right,-Z3,Bp];refine Zr (r:=.int .i64 (-1)) ?_ rfl ⟨-1,rfl⟩;simp -implicitDefEqProofs [-getElem?_pos,-exists_and_left,-exists_and_right,-Z3]
 by_cases g:z.turn=0
 .have m1:=Z6c z.x z2;have m2:=Z6c z.y z3;simp -implicitDefEqProofs [-getElem?_pos,-exists_and_left,-exists_and_right,-Z3,Bp,g];refine Zv [] m1 ?_;rintro _ ⟨a,rfl,a1,a2⟩;simp -implicitDefEqProofs [-getElem?_pos,-exists_and_left,-exists_and_right,-Z3,Bp,g];refine Zv [] m2 ?_;rintro _ ⟨b,rfl,b1,b2⟩;simp -implicitDefEqProofs [-getElem?_pos,-exists_and_left,-exists_and_right,-Z3,Bp,g]
  ((repeat' with_reducible apply And.intro)<;> try exact Ye);refine Zr (r:=.int .i64 (a+b)) ?_ rfl ⟨_,rfl⟩;simp -implicitDefEqProofs [-getElem?_pos,-exists_and_left,-exists_and_right,-Z3]
 .simp -implicitDefEqProofs [-getElem?_pos,-exists_and_left,-exists_and_right,-Z3,Bp,g];refine Zr (r:=.int .i64 (-1)) ?_ rfl ⟨-1,rfl⟩;simp -implicitDefEqProofs [-getElem?_pos,-exists_and_left,-exists_and_right,-Z3]
theorem Z2S(l:List A7)(hf:YW l=true)(i j lim:Int):AF prog 137 [.sl true 35 8 (fE l),.int .i64 i,.int .i64 j,.int .i64 lim] (fun r=>∃ b,r=.bool b):=by
 have n1:=Z3B l hf i j;refine BI func137 ntmps137 results137 ?_;simp -implicitDefEqProofs [-getElem?_pos,-exists_and_left,-exists_and_right,-Z3];refine Zv [] n1 ?_;rintro _ ⟨n,rfl⟩;by_cases g1:0<=n
 .by_cases g2:n<=lim
  .simp -implicitDefEqProofs [-getElem?_pos,-exists_and_left,-exists_and_right,-Z3,g1,g2];refine Zr (r:=.bool true) ?_ rfl ⟨_,rfl⟩;simp -implicitDefEqProofs [-getElem?_pos,-exists_and_left,-exists_and_right,-Z3,g1,g2]
  .simp -implicitDefEqProofs [-getElem?_pos,-exists_and_left,-exists_and_right,-Z3,g1,g2];refine Zr (r:=.bool false) ?_ rfl ⟨_,rfl⟩;simp -implicitDefEqProofs [-getElem?_pos,-exists_and_left,-exists_and_right,-Z3,g1,g2]
 .simp -implicitDefEqProofs [-getElem?_pos,-exists_and_left,-exists_and_right,-Z3,g1];refine Zr (r:=.bool false) ?_ rfl ⟨_,rfl⟩;simp -implicitDefEqProofs [-getElem?_pos,-exists_and_left,-exists_and_right,-Z3,g1]
def RN(c:Cd):List AV:=[.int .i64 c.nd,.bool (decide (c.tot.num<0)),.sl false 3 1 (iE (Zz c.tot.num.natAbs)),.sl false 3 1 (iE (Zz c.tot.den)),.sl true 233 10 (pE c.ps)]
theorem Z6M(c:Cd)(v:Int)(hl:c.ps.length<=100000):AF prog 155 [.agg (RN c),.int .i64 v] (fun r=>∃ b,r=.bool b):=by
 refine BI func155 ntmps155 results155 ?_;simp[-getElem?_pos,-exists_and_left,-exists_and_right,-Z3,RN];refine Ec (fun σ=>∃ k:Nat,k<=c.ps.length/\σ.env 1=.int .i64 v/\σ.env 8=.sl true 233 10 (pE c.ps)/\σ.env 9=.int .i64 c.ps.length/\σ.env 10=.int .i64 k) (fun σ=>100001-BU (σ.env 10)) ?_ ?_
 .exact⟨0,Zs _,s_⟩
 .rintro σ ⟨k,hk,E⟩;by_cases ga:k<c.ps.length
  .obtain⟨x,hx⟩:∃ x,c.ps[k]? = some x:=⟨_,Z4 ga⟩;have hx2:=Po hx;by_cases hv:x.nd=v
   .simp[-getElem?_pos,-exists_and_left,-exists_and_right,-Z3,E,ga,hx2,Cv,hv];refine Zr (r:=.bool true) ?_ rfl ⟨_,rfl⟩;simp[-getElem?_pos,-exists_and_left,-exists_and_right,-Z3]
   .simp[-getElem?_pos,-exists_and_left,-exists_and_right,-Z3,E,ga,hx2,Cv,hv]
    ((repeat' with_reducible apply And.intro)<;> try exact Ye);exact⟨k+1,o_,o_⟩
  .simp[-getElem?_pos,-exists_and_left,-exists_and_right,-Z3,E,ga];refine Zr (r:=.bool false) ?_ rfl ⟨_,rfl⟩;simp[-getElem?_pos,-exists_and_left,-exists_and_right,-Z3]
theorem XN(c:Cd)(hl:c.ps.length<=100000)(g:Mb c):Spec prog 128 [.agg (RN c)] (.agg (Dg c)):=by
 have n0:=Q7 c.tot g.1;refine Bj func128 ntmps128 results128 ?_;simp[-getElem?_pos,-exists_and_left,-exists_and_right,-Z3,RN];refine Ah [] n0 ?_;simp[-getElem?_pos,-exists_and_left,-exists_and_right,-Z3,dQ]
 ((repeat' with_reducible apply And.intro)<;> try exact Ye);refine ZF (fun σ=>∃ k st s3:Nat,k<=c.ps.length/\σ.env 2=.ptr 2 1 0 0/\σ.box 2=some ⟨161,5,1,[[.int .i64 0,.bool false,.nil,.nil,.nil]],false⟩/\σ.env 3=.ptr 3 s3 0 0/\σ.box 3=some ⟨161,5,s3,[[.int .i64 c.nd,.bool (decide (c.tot.num<0)),.sl false 3 1 (iE (Zz c.tot.num.natAbs)),.sl false 3 1 (iE (Zz c.tot.den)),.vw 36 st]],false⟩/\σ.box 36=some ⟨233,10,st,pE (c.ps.take k),true⟩/\σ.env 14=.sl true 233 10 (pE c.ps)/\σ.env 15=.int .i64 c.ps.length/\σ.env 16=.int .i64 k) (fun σ=>100001-BU (σ.env 16)) (nI _ 3 0 4 36 233 10 AO (by simp;intro b cs hb hc;subst hb;simp at hc;subst hc;simp)) ?_ ?_
 .exact⟨0,_,_,Zs _,s_,s_,by simp;rfl,by simp;rfl,by simp[pE]⟩
 .rintro σ ⟨k,st,s3,hk,E⟩;have Ls:=E.2.2.2.2.1;by_cases ga:k<c.ps.length
  .obtain⟨x,hx⟩:∃ x,c.ps[k]? = some x:=⟨_,Z4 ga⟩;have hx2:=Po hx;have gx:=g.2 x (Z6 hx);have n1:=Q7 x.sh gx.1;have n2:=Q7 x.dx gx.2.1;have n3:=Q7 x.dy gx.2.2;have hn:pE (c.ps.take k)++[Cv x]=pE (c.ps.take (k+1)):=by rw[ZiX,QI hx]
   have hlen:(pE (c.ps.take k)).length=k:=by simp;omega
   generalize pE (c.ps.take k)=E0 at *
   simp[-getElem?_pos,-exists_and_left,-exists_and_right,-Z3,E,ga,hx2,Cv,hlen];refine Ah [] n1 ?_;simp[-getElem?_pos,-exists_and_left,-exists_and_right,-Z3,E,ga,hx2,dQ,hlen];refine Ah [] n2 ?_;simp[-getElem?_pos,-exists_and_left,-exists_and_right,-Z3,E,ga,hx2,dQ,hlen];refine Ah [] n3 ?_;simp[-getElem?_pos,-exists_and_left,-exists_and_right,-Z3,E,ga,hx2,dQ,hlen]
   ((repeat' with_reducible apply And.intro)<;> try exact Ye);refine BD (AZ _) ⟨k+1,_,s3,o_,by simp[E],by simp[E],by simp[E],by simp[E];rfl,?_,by simp[E]⟩ (by simp[E];omega);simp[-getElem?_pos,-exists_and_left,-exists_and_right,-Z3];exact hn
  .obtain rfl:k=c.ps.length:=by omega
   rw[List.take_length]at Ls;simp[-getElem?_pos,-exists_and_left,-exists_and_right,-Z3,E,Dg];exact⟨none,s_⟩
theorem Z1r:Spec prog 126 [] (.agg (Dx ⟨Dw 0,Dw 0⟩)):=by
 have hz:=Yf 0 o_ o_;generalize Dw 0=z at *
 refine Bj func126 ntmps126 results126 ?_;simp[-getElem?_pos,-exists_and_left,-exists_and_right,-Z3];refine Ah [] hz ?_;simp[-getElem?_pos,-exists_and_left,-exists_and_right,-Z3];refine Ah [] hz ?_;simp[-getElem?_pos,-exists_and_left,-exists_and_right,-Z3,dQ,Dx]
theorem Z9u(t:List Tn)(hl:t.length<=100000)(g:∀ n∈t,Mb n.cd/\n.cd.ps.length<=1000):Spec prog 88 [.agg [.sl true 163 12 (tE t)]] (.own 161 5 (cE (t.map (·.cd)))):=by
 refine Bj func88 ntmps88 results88 ?_;simp[-getElem?_pos,-exists_and_left,-exists_and_right,-Z3];refine ZF (fun σ=>∃ k st:Nat,k<=t.length/\σ.env 3=.vw 6 st/\σ.box 6=some ⟨161,5,st,cE ((t.take k).map (·.cd)),true⟩/\σ.env 8=.sl true 163 12 (tE t)/\σ.env 9=.int .i64 t.length/\σ.env 10=.int .i64 k) (fun σ=>100001-BU (σ.env 10)) (AZ _) ?_ ?_
 .exact⟨0,_,Zs _,by simp;rfl,s_⟩
 .rintro σ ⟨k,st,hk,E⟩;have b6:=E.2.1;by_cases ga:k<t.length
  .obtain⟨x,hx⟩:∃ x,t[k]? = some x:=⟨_,Z4 ga⟩;have hx2:=oV hx;obtain⟨gx,gl⟩:=g x (Z6 hx);have n1:=XN x.cd o_ gx;rw[RN]at n1;have hn:cE ((t.take k).map (·.cd))++[Dg x.cd]=cE ((t.take (k+1)).map (·.cd)):=by rw[ZpH,QI hx];simp[-getElem?_pos,-exists_and_left,-exists_and_right,-Z3]
   have hlen:(cE ((t.take k).map (·.cd))).length=k:=by simp;omega
   generalize cE ((t.take k).map (·.cd))=E0 at *
   simp[-getElem?_pos,-exists_and_left,-exists_and_right,-Z3,E,ga,hx2,Fe,hlen];refine Ah [] n1 ?_;simp[-getElem?_pos,-exists_and_left,-exists_and_right,-Z3,E,ga,hx2,Dg,hlen]
   ((repeat' with_reducible apply And.intro)<;> try exact Ye);refine BD (AZ _) ⟨k+1,_,o_,by simp;rfl,?_,by simp[E]⟩ (by simp[E];omega);simp[-getElem?_pos,-exists_and_left,-exists_and_right,-Z3];rw[List.map_take]at hn;exact hn
  .obtain rfl:k=t.length:=by omega
   rw[List.take_length]at b6;simp[-getElem?_pos,-exists_and_left,-exists_and_right,-Z3,E]
theorem Z5H(t:List Tn)(hl:t.length<=100000)(g:∀ n∈t,Bq n.en):AF prog 59 [.agg [.sl true 163 12 (tE t)]] (fun r=>∃ q,Bq q/\r=.agg (dQ q)):=by
 have hz:=Yf 0 o_ o_;have gz:Bq (Dw 0):=YS AO;generalize Dw 0=z at *
 refine BI func59 ntmps59 results59 ?_;simp[-getElem?_pos,-exists_and_left,-exists_and_right,-Z3];refine Ah [] hz ?_;simp[-getElem?_pos,-exists_and_left,-exists_and_right,-Z3,dQ];refine ZF (fun σ=>∃ (k s3:Nat) (q:Rt),k<=t.length/\Bq q/\σ.env 2=.ptr 2 1 0 0/\σ.box 2=some ⟨47,3,1,[[.bool false,.nil,.nil]],false⟩/\σ.env 3=.ptr 3 s3 0 0/\σ.box 3=some ⟨47,3,s3,[dQ q],false⟩/\σ.env 8=.sl true 163 12 (tE t)/\σ.env 9=.int .i64 t.length/\σ.env 10=.int .i64 k) (fun σ=>100001-BU (σ.env 10)) (AZ _) ?_ ?_
 .exact⟨0,_,z,Zs _,gz,s_,s_,by simp;rfl,by simp[dQ]⟩
 .rintro σ ⟨k,s3,q,hk,gq,E⟩;by_cases ga:k<t.length
  .obtain⟨x,hx⟩:∃ x,t[k]? = some x:=⟨_,Z4 ga⟩;have hx2:=oV hx;have gx:=g x (Z6 hx);have n1:=Z1e q x.en gq gx;have g2:=Q2 q x.en;generalize Xc q x.en=q2 at *
   simp[-getElem?_pos,-exists_and_left,-exists_and_right,-Z3,E,ga,hx2,Fe,dQ];refine Ah [] n1 ?_;simp[-getElem?_pos,-exists_and_left,-exists_and_right,-Z3,E,ga,hx2,Fe,dQ]
   ((repeat' with_reducible apply And.intro)<;> try exact Ye);refine BD (AZ _) ⟨k+1,s3,q2,o_,g2,by simp[E,dQ]⟩ (by simp[E];omega)
  .simp[-getElem?_pos,-exists_and_left,-exists_and_right,-Z3,E,ga,dQ];refine Zr (r:=.agg (dQ q)) ?_ rfl ⟨q,gq,rfl⟩;simp[-getElem?_pos,-exists_and_left,-exists_and_right,-Z3,E,ga,dQ]
def TnG(n:Tn):Prop:=(∀ l∈n.own,D6 l)/\n.own.length<=1000/\Mb n.cd/\n.cd.ps.length<=1000/\(∀ l∈n.ms,D6 l)/\n.ms.length<=1000/\Bq n.en
def ZsE(n:Tn):List AV:=[.int .i64 n.nd,.int .i64 n.up,.sl true 186 11 (kE n.own),.int .i64 n.cd.nd,.bool (decide (n.cd.tot.num<0)),.sl false 3 1 (iE (Zz n.cd.tot.num.natAbs)),.sl false 3 1 (iE (Zz n.cd.tot.den)),.sl true 233 10 (pE n.cd.ps),.sl true 186 11 (kE n.ms),.bool (decide (n.en.num<0)),.sl false 3 1 (iE (Zz n.en.num.natAbs)),.sl false 3 1 (iE (Zz n.en.den))]
theorem Z3z(n:Tn)(g:TnG n):Spec prog 156 [.agg (ZsE n)] (.agg (Fe n)):=by
 obtain⟨g1,g2,g3,g4,g5,g6,g7⟩:=g;have n1:=Jh n.own o_ g1;have n2:=XN n.cd o_ g3;rw[RN]at n2;have n3:=Jh n.ms o_ g5;have n4:=Q7 n.en g7;refine Bj func156 ntmps156 results156 ?_;simp[-getElem?_pos,-exists_and_left,-exists_and_right,-Z3,ZsE];refine Ah [] n1 ?_;simp[-getElem?_pos,-exists_and_left,-exists_and_right,-Z3,RN];refine Ah [] n2 ?_;simp[-getElem?_pos,-exists_and_left,-exists_and_right,-Z3,Dg];refine Ah [] n3 ?_;simp[-getElem?_pos,-exists_and_left,-exists_and_right,-Z3,Dg,dQ];refine Ah [] n4 ?_;simp[-getElem?_pos,-exists_and_left,-exists_and_right,-Z3,Dg,dQ,Fe]
 ((repeat' with_reducible apply And.intro)<;> try exact Ye)
theorem Z8v(t:List Tn)(hl:t.length<=1000)(g:∀ n∈t,TnG n):Spec prog 118 [.agg [.sl true 163 12 (tE t)]] (.agg [.sl false 163 12 (tE t)]):=by
 refine Bj func118 ntmps118 results118 ?_;simp[-getElem?_pos,-exists_and_left,-exists_and_right,-Z3];refine ZF (fun σ=>∃ k st s3:Nat,k<=t.length/\σ.env 2=.ptr 2 1 0 0/\σ.box 2=some ⟨118,1,1,[[.nil]],false⟩/\σ.env 3=.ptr 3 s3 0 0/\σ.box 3=some ⟨118,1,s3,[[.vw 19 st]],false⟩/\σ.box 19=some ⟨163,12,st,tE (t.take k),true⟩/\σ.env 8=.sl true 163 12 (tE t)/\σ.env 9=.int .i64 t.length/\σ.env 10=.int .i64 k) (fun σ=>1001-BU (σ.env 10)) (nI _ 3 0 0 19 163 12 AO (by simp;intro b cs hb hc;subst hb;simp at hc;subst hc;simp)) ?_ ?_
 .exact⟨0,_,_,Zs _,s_,s_,by simp;rfl,by simp;rfl,by simp[tE]⟩
 .rintro σ ⟨k,st,s3,hk,E⟩;have b19:=E.2.2.2.2.1;by_cases ga:k<t.length
  .obtain⟨x,hx⟩:∃ x,t[k]? = some x:=⟨_,Z4 ga⟩;have hx2:=oV hx;have gx:=g x (Z6 hx);have n1:=Z3z x gx;rw[ZsE]at n1;have hn:tE (t.take k)++[Fe x]=tE (t.take (k+1)):=by rw[Ziu,QI hx]
   have hlen:(tE (t.take k)).length=k:=by simp;omega
   generalize tE (t.take k)=E0 at *
   simp[-getElem?_pos,-exists_and_left,-exists_and_right,-Z3,E,ga,hx2,Fe,hlen];refine Ah [] n1 ?_;simp[-getElem?_pos,-exists_and_left,-exists_and_right,-Z3,E,ga,hx2,Fe,hlen]
   ((repeat' with_reducible apply And.intro)<;> try exact Ye);refine BD (AZ _) ⟨k+1,_,s3,o_,by simp[E],by simp[E],by simp[E],by simp[E];rfl,?_,by simp[E]⟩ (by simp[E];omega);simp[-getElem?_pos,-exists_and_left,-exists_and_right,-Z3];rw[<- hn];rfl
  .obtain rfl:k=t.length:=by omega
   rw[List.take_length]at b19;simp[-getElem?_pos,-exists_and_left,-exists_and_right,-Z3,E];exact⟨none,s_⟩
end Go.Proofs.YtcnbphnnfmphlaaGreatDoor
