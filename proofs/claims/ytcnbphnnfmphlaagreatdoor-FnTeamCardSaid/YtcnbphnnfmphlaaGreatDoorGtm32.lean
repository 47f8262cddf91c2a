/- Texts of this proof. -/
import Derived.Test.YtcnbphnnfmphlaaGreatDoorGtm31
namespace Go.Proofs.YtcnbphnnfmphlaaGreatDoor
open Bool renaming exists_bool → Z3,and_eq_true → Zc
open _root_.List renaming getElem?_eq_getElem → Z4,mem_of_getElem? → Z6,mem_append → Z9,getElem?_eq_some_iff → Za,mem_singleton → Zh,mem_cons → Zn,mem_of_mem_drop → ZG,getElem_of_mem → ZM,mem_of_mem_take → ZT
open Nat renaming zero_le → Zs
open Go.Proofs.Tryz
open Go.RowKit
set_option linter.unusedVariables false
set_option linter.unusedSimpArgs false
set_option maxHeartbeats 4000000
set_option maxRecDepth 100000
variable{ls:List Lk}{l:Lk}
theorem Zqf{n:Nat}(h:n<18446744073709551616):(Zz n).length<=3:=YN (by unfold BS;omega)
theorem Z8E(x:Int)(h1:-9223372036854775808<=x)(h2:x<9223372036854775808):Spec prog 129 [.int .i64 x] (.agg (dB x)):=by
 have hl:=Zqf (n:=x.natAbs) o_;have hn:=X6 x.natAbs o_;by_cases h:x<0
 .have hm:=Q8 true x.natAbs o_;rw[show sg true x.natAbs=x by unfold sg;simp;omega]at hm;have u1:IntKind.u64.wrap (-(x+1))= -(x+1):=Rq o_ o_;have u2:-(x+1)+1=((x.natAbs:Nat):Int):=by omega
  have u3:IntKind.u64.wrap (-(x+1)+1)= -(x+1)+1:=Rq o_ o_;refine Bj func129 ntmps129 results129 ?_;simp[h,u1,u2];refine⟨Fb o_ o_,Fb o_ o_,Rq o_ o_,?_⟩;refine Ah [] hn ?_;simp;refine Ah [10] hm ?_;simp[dB]
 .have hm:=Q8 false x.natAbs o_;rw[show sg false x.natAbs=x by unfold sg;simp;omega]at hm
  have u1:IntKind.u64.wrap x=((x.natAbs:Nat):Int):=by
   have:IntKind.u64.wrap x=x:=Rq o_ o_;omega
  refine Bj func129 ntmps129 results129 ?_;simp[h,u1];refine Ah [] hn ?_;simp;refine Ah [14] hm ?_;simp[dB]
theorem Yf(x:Int)(h1:-9223372036854775808<=x)(h2:x<9223372036854775808):Spec prog 89 [.int .i64 x] (.agg (dQ (Dw x))):=by
 have hb:=Z8E x h1 h2
 have e:dQ (Dw x)=[.bool (decide (x<0)),.sl false 3 1 (iE (Zz x.natAbs)),.sl false 3 1 [[.int .i64 1]]]:=by
  unfold dQ Dw;rw[oD (d:=1) o_ (by unfold BS;omega)];rfl
 rw[e];clear e;refine Bj func89 ntmps89 results89 ?_;simp;refine Ah [] hb ?_;simp[dB]
 ((repeat' with_reducible apply And.intro)<;> try exact Ye)
def GM:Option (List Lk×Rt)->AV
 |some (m,e)=>.tup [.sl false 186 11 (kE m),.agg (dQ e),.bool true]
 |none=>.tup [.sl false 186 11 [],.agg (dQ zR),.bool false]
theorem ZbQ(x:Option (List Lk×Rt)):GG (GM x)=true:=by
 cases x with
 |none=>rfl
 |some p=>rfl
theorem ZjK(l:List Lk)(m:Lk)(k j:Nat):List.take k (kE l)++Bd m::List.drop j (kE l)=kE (l.take k++m::l.drop j):=by simp[kE,List.map_take,List.map_drop]
theorem Zh2{set:List Lk}{x:Lk}{k:Nat}(h:∀ (i:Nat) y,i<k->set[i]? = some y->Ew y l=true)(hx:set[k]? = some x)(hn:Ew x l=false):JJ set l=k:=by
 induction set generalizing k with
 |nil=>simp at hx
 |cons a r ih =>
  cases k with
  |zero =>
   have:a=x:=by simpa using hx
   subst this;simp[-getElem?_pos,-exists_and_left,-exists_and_right,JJ,hn]
  |succ k =>
   have h0:=h 0 a o_ rfl;have:=ih (k:=k) (fun i y hi hy=>h (i+1) y o_ (by simpa using hy)) (by simpa using hx);unfold JJ at this;simp[-getElem?_pos,-exists_and_left,-exists_and_right,JJ,h0,this]
theorem ZiU{set:List Lk}(h:∀ (i:Nat) y,set[i]? = some y->Ew y l=true):JJ set l=set.length:=by
 induction set with
 |nil=>rfl
 |cons a r ih =>
  have h0:=h 0 a rfl;have:=ih (fun i y hy=>h (i+1) y (by simpa using hy));unfold JJ at this;simp[-getElem?_pos,-exists_and_left,-exists_and_right,JJ,h0,this]
theorem Zgh(k l:Lk):Spec prog 157 [.agg (Bd k),.agg (Bd l)] (.bool (Ew k l)):=Z05 (IZ k) (IZ l)
theorem Z9t(set:List Lk)(l:Lk)(hn:set.length<=100000)(hg:∀ k∈set,D6 k)(gl:D6 l):Spec prog 152 [.sl true 186 11 (kE set),.agg (Bd l)] (GM (Lm set l)):=by
 obtain⟨R,hR⟩:∃ R,R=GM (Lm set l):=⟨_,rfl⟩;have hok:GG R=true:=by rw[hR];exact ZbQ _
 rw[<- hR];refine Qu M8 func152 rfl rfl ntmps152 results152 (by decide +kernel) rfl rfl hok ?_;simp[-getElem?_pos,-exists_and_left,-exists_and_right,Bd]
 ((repeat' with_reducible apply And.intro)<;> try exact Ye);refine Ec (fun σ=>∃ k:Nat,k<=set.length/\(∀ (i:Nat) y,i<k->set[i]? = some y->Ew y l=true)/\σ.env 0=.sl true 186 11 (kE set)/\σ.env 7=.int .i64 k/\σ.box 3=some ⟨186,11,0,[Bd l],false⟩/\σ.box 5=some ⟨47,3,2,[[.bool false,.nil,.nil]],false⟩/\σ.env 3=.ptr 3 0 0 0/\σ.env 5=.ptr 5 2 0 0) (fun σ=>100001-BU (σ.env 7)) ?_ ?_
 .refine⟨0,Zs _,fun i y h=>by omega,s_,s_,by simp[Bd],s_,s_,s_⟩
 .rintro σ ⟨k,hk,hup,e0,e7,b3,b5,p3,p5⟩;by_cases ga:k<set.length
  .obtain⟨x,hx⟩:∃ x,set[k]? = some x:=⟨_,Z4 ga⟩;have hx2:=Pm hx;have n1:=Zgh x l;cases hc:Ew x l
   .have hp:=Zh2 hup hx hc;rw[hc]at n1;simp[-getElem?_pos,-exists_and_left,-exists_and_right,e0,e7,b3,b5,p3,p5,ga,hx2,Bd];refine Ah [] n1 ?_;simp[-getElem?_pos,-exists_and_left,-exists_and_right,e0,e7,b3,b5,p3,p5,ga,hx2,Bd];refine⟨EM BC,?_⟩;have hnl:¬(k:Int)=(set.length:Int):=by omega
    have n2:=Zgh l x;have hkl:k<=set.length:=hk;cases hd:Ew l x
    .rw[hd]at n2;have n3:=Z5F x l (hg x (Z6 hx)) gl;cases hm:TX x l with
     |none =>
      have hR':R=.tup [.sl false 186 11 [],.agg (dQ zR),.bool false]:=by
       rw[hR];unfold Lm;rw[hp,hx];dsimp only;rw[hd,hm];rfl
      rw[Jb]at hR';rw[hm]at n3;simp only[fO,Lt,Jb]at n3;simp[-getElem?_pos,-exists_and_left,-exists_and_right,e0,e7,b3,b5,p3,p5,ga,hx2,Bd,hnl,hkl]
      ((repeat' with_reducible apply And.intro)<;> try exact Ye);refine Ah [] n2 ?_;simp[-getElem?_pos,-exists_and_left,-exists_and_right,e0,e7,b3,b5,p3,p5,ga,hx2,Bd,hnl,hkl];refine⟨EM BC,?_⟩;refine Ah [] n3 ?_;simp[-getElem?_pos,-exists_and_left,-exists_and_right,e0,e7,b3,b5,p3,p5,ga,hx2,Bd,hnl,hkl];refine⟨EM BC,?_⟩;simp[-getElem?_pos,-exists_and_left,-exists_and_right,e0,e7,b3,b5,p3,p5,ga,hx2,Bd,hnl,hkl,hR']
     |some p =>
      obtain⟨m,e⟩:=p
      have hR':R=.tup [.sl false 186 11 (kE (set.take k++(m::set.drop (k+1)))),.agg (dQ e),.bool true]:=by
       rw[hR];unfold Lm;rw[hp,hx];dsimp only;rw[hd,hm];rfl
      rw[hm]at n3;simp only[fO]at n3;simp[-getElem?_pos,-exists_and_left,-exists_and_right,e0,e7,b3,b5,p3,p5,ga,hx2,Bd,hnl,hkl]
      ((repeat' with_reducible apply And.intro)<;> try exact Ye);refine Ah [] n2 ?_;simp[-getElem?_pos,-exists_and_left,-exists_and_right,e0,e7,b3,b5,p3,p5,ga,hx2,Bd,hnl,hkl];refine⟨EM BC,?_⟩;refine Ah [] n3 ?_;simp[-getElem?_pos,-exists_and_left,-exists_and_right,e0,e7,b3,b5,p3,p5,ga,hx2,Bd,hnl,hkl,dQ,hR'];refine⟨EM BC,?_⟩;refine⟨⟨o_,by unfold maxLen;omega⟩,Fb o_ o_,⟨o_,o_⟩,⟨o_,by unfold maxLen;omega⟩,EM BC,none,s_,ZjK _ _ _ _⟩
    .rw[hd]at n2
     have hR':R=.tup [.sl false 186 11 (kE (set.take k++(l::set.drop k))),.agg (dQ (Dw 0)),.bool true]:=by
      rw[hR];unfold Lm;rw[hp,hx];dsimp only;rw[hd];rfl
     have hz:=Yf 0 o_ o_;simp[-getElem?_pos,-exists_and_left,-exists_and_right,e0,e7,b3,b5,p3,p5,ga,hx2,Bd,hnl,hkl]
     ((repeat' with_reducible apply And.intro)<;> try exact Ye);refine Ah [] n2 ?_;simp[-getElem?_pos,-exists_and_left,-exists_and_right,e0,e7,b3,b5,p3,p5,ga,hx2,Bd,hnl,hkl];refine⟨EM BC,?_⟩
     ((repeat' with_reducible apply And.intro)<;> try exact Ye);refine Ah [] hz ?_;simp[-getElem?_pos,-exists_and_left,-exists_and_right,e0,e7,b3,b5,p3,p5,Bd,hR',dQ];exact⟨none,s_,ZjK _ _ _ _⟩
   .rw[hc]at n1;simp[-getElem?_pos,-exists_and_left,-exists_and_right,e0,e7,b3,b5,p3,p5,ga,hx2,Bd];refine Ah [] n1 ?_;simp[-getElem?_pos,-exists_and_left,-exists_and_right,e0,e7,b3,b5,p3,p5,ga,hx2,Bd]
    ((repeat' with_reducible apply And.intro)<;> try exact Ye);refine⟨k+1,o_,fun i y hi hy=>?_,o_⟩;rcases Nat.lt_or_ge i k with h|h
    .exact hup i y h hy
    .obtain rfl:i=k:=by omega
     rw[hx]at hy;cases hy;exact hc
  .obtain rfl:k=set.length:=by omega
   have hp:=ZiU (set:=set) (l:=l) fun i y hy=>hup i y (Za.1 hy).1 hy
   have hR':R=.tup [.sl false 186 11 (kE (set++[l])),.agg (dQ (Dw 0)),.bool true]:=by
    rw[hR];unfold Lm;rw[hp,List.getElem?_eq_none (Nat.le_refl _)];dsimp only;rw[List.take_length];rfl
   have hz:=Yf 0 o_ o_;simp[-getElem?_pos,-exists_and_left,-exists_and_right,e0,e7,b3,b5,p3,p5,Bd];refine⟨EM BC,?_⟩
   ((repeat' with_reducible apply And.intro)<;> try exact Ye);refine Ah [] hz ?_;simp[-getElem?_pos,-exists_and_left,-exists_and_right,e0,e7,b3,b5,p3,p5,Bd,hR',dQ];exact⟨none,s_,(ZjK _ _ _ _).trans s_⟩
theorem ZhO{set m:List Lk}{e:Rt}(hs:∀ k∈set,D6 k)(hl:D6 l)(h:Lm set l=some (m,e)):(∀ k∈m,D6 k)/\Bq e/\m.length<=set.length+1:=by
 unfold Lm at h;have ht:∀ k∈set.take (JJ set l),D6 k:=fun k hk=>hs k (ZT hk)
 have h0:Bq (Dw 0):=YS AO;split at h
 .cases h;refine⟨fun k hk=>?_,h0,AR⟩;rcases Z9.1 hk with h|h
  .exact ht k h
  .rw[Zh.1 h];exact hl
 .rename_i x hx;split at h
  .cases h;refine⟨fun k hk=>?_,h0,AR⟩;rcases Z9.1 hk with h|h
   .exact ht k h
   .rcases Zn.1 h with rfl|h
    .exact hl
    .exact hs k (ZG h)
  .split at h
   .cases h
   .rename_i y e' hm;cases h;obtain⟨g1,g2,_⟩:=Z67 hm;have hlt:=(Za.1 hx).1;refine⟨fun k hk=>?_,g2,AR⟩;rcases Z9.1 hk with h|h
    .exact ht k h
    .rcases Zn.1 h with rfl|h
     .exact g1
     .exact hs k (ZG h)
theorem Z8p:∀ l:List Lk,l.foldl QJ none=none
 |[]=>rfl
 |_::l=>Z8p l
theorem Jg(ls:List Lk)(hn:ls.length<=100000)(hg:∀ k∈ls,D6 k):Spec prog 114 [.sl true 186 11 (kE ls)] (GM (Ph ls)):=by
 obtain⟨R,hR⟩:∃ R,R=GM (Ph ls):=⟨_,rfl⟩;have hok:GG R=true:=by rw[hR];exact ZbQ _
 rw[<- hR];have hz:=Yf 0 o_ o_;refine Qu M8 func114 rfl rfl ntmps114 results114 (by decide +kernel) rfl rfl hok ?_;simp[-getElem?_pos,-exists_and_left,-exists_and_right];refine Ah [] hz ?_;simp[-getElem?_pos,-exists_and_left,-exists_and_right,dQ];refine Ec (fun σ=>∃ (k:Nat) (set:List Lk) (sum:Rt),k<=ls.length/\Ph ls=(ls.drop k).foldl QJ (some (set,sum))/\set.length<=k/\(∀ k∈set,D6 k)/\Bq sum/\σ.env 3=.ptr 3 1 0 0/\σ.box 3=some ⟨47,3,1,[[.bool false,.nil,.nil]],false⟩/\σ.env 14=.sl true 186 11 (kE ls)/\σ.env 15=.int .i64 ls.length/\σ.env 16=.int .i64 k/\(∃ FV,σ.env 6=.ptr 6 FV 0 0/\σ.box 6=some ⟨47,3,FV,[dQ sum],false⟩)/\(σ.env 5=.sl false 186 11 (kE set)∨∃ st,set=[]/\σ.env 5=.vw 12 st/\σ.box 12=some ⟨186,11,st,[],true⟩)) (fun σ=>100001-BU (σ.env 16)) ?_ ?_
 .exact⟨0,[],Dw 0,Zs _,rfl,Nat.le_refl _,s_,YS AO,s_,s_,s_,s_,s_,⟨_,by simp;rfl,by simp[dQ]⟩,.inr ⟨_,rfl,by simp;rfl,s_⟩⟩
 .rintro σ ⟨k,set,sum,hk,hj,hsl,hsg,fP,p3,b3,e14,e15,e16,⟨FV,p6,b6⟩,h5⟩;by_cases ga:k<ls.length
  .obtain⟨x,hx⟩:∃ x,ls[k]? = some x:=⟨_,Z4 ga⟩;have hx2:=Pm hx;have gx:=hg x (Z6 hx)
   have hdr:ls.drop k=x::ls.drop (k+1):=by
    obtain⟨h1,rfl⟩:=Za.1 hx;exact List.drop_eq_getElem_cons h1
   rw[hdr,List.foldl_cons]at hj;have n1:=Z9t set x o_ hsg gx;cases ha:Lm set x with
   |none =>
    have hR':R=.tup [.sl false 186 11 [],.agg [.bool false,.sl false 3 1 [],.sl false 3 1 []],.bool false]:=by
     have hst:QJ (some (set,sum)) x=none:=by unfold QJ;dsimp only;rw[ha]
     rw[hst,Z8p]at hj;rw[hR,hj,<- Jb];rfl
    have n2:=Yy sum zR fP .zero;rw[ha]at n1;simp only[GM,Jb]at n1;rw[Jb]at n2;generalize Xc sum zR=s2 at *
    rcases h5 with e5 |⟨st,rfl,e5,b12⟩
    .simp[-getElem?_pos,-exists_and_left,-exists_and_right,p3,b3,e14,e15,e16,p6,b6,e5,ga,hx2,Bd];refine Ah [] n1 ?_;simp[-getElem?_pos,-exists_and_left,-exists_and_right,p3,b3,e14,e15,e16,p6,b6,e5,ga,hx2,dQ];refine Ah [] n2 ?_;simp[-getElem?_pos,-exists_and_left,-exists_and_right,p3,b3,e14,e15,e16,p6,b6,e5,ga,hx2,dQ,hR']
    .simp[-getElem?_pos,-exists_and_left,-exists_and_right,p3,b3,e14,e15,e16,p6,b6,e5,b12,ga,hx2,Bd];refine Ah [] n1 ?_;simp[-getElem?_pos,-exists_and_left,-exists_and_right,p3,b3,e14,e15,e16,p6,b6,e5,b12,ga,hx2,dQ];refine Ah [] n2 ?_;simp[-getElem?_pos,-exists_and_left,-exists_and_right,p3,b3,e14,e15,e16,p6,b6,e5,b12,ga,hx2,dQ,hR']
   |some p =>
    obtain⟨m,e⟩:=p;obtain⟨gm,ge,PU⟩:=ZhO hsg gx ha;have n2:=Yy sum e fP ge;have n3:=Yw (Xc sum e);have g2:=Q2 sum e;have hst:QJ (some (set,sum)) x=if QC (Xc sum e)then some (m,Xc sum e)else none:=by unfold QJ;dsimp only;rw[ha]
    rw[hst]at hj;rw[ha]at n1;simp only[GM]at n1;generalize Xc sum e=s2 at *
    generalize QC s2=ok at *
    cases ok
    .have hR':R=.tup [.sl false 186 11 [],.agg [.bool false,.sl false 3 1 [],.sl false 3 1 []],.bool false]:=by
      rw[show(if false=true then some (m,s2)else none:Option (List Lk×Rt))=none from rfl,Z8p]at hj;rw[hR,hj,<- Jb];rfl
     rcases h5 with e5 |⟨st,rfl,e5,b12⟩
     .simp[-getElem?_pos,-exists_and_left,-exists_and_right,p3,b3,e14,e15,e16,p6,b6,e5,ga,hx2,Bd];refine Ah [] n1 ?_;simp[-getElem?_pos,-exists_and_left,-exists_and_right,p3,b3,e14,e15,e16,p6,b6,e5,ga,hx2,dQ];refine Ah [] n2 ?_;simp[-getElem?_pos,-exists_and_left,-exists_and_right,p3,b3,e14,e15,e16,p6,b6,e5,ga,hx2,dQ,hR'];refine Ah [] n3 ?_;simp[-getElem?_pos,-exists_and_left,-exists_and_right,p3,b3,e14,e15,e16,p6,b6,e5,ga,hx2,dQ,hR']
     .simp[-getElem?_pos,-exists_and_left,-exists_and_right,p3,b3,e14,e15,e16,p6,b6,e5,b12,ga,hx2,Bd];refine Ah [] n1 ?_;simp[-getElem?_pos,-exists_and_left,-exists_and_right,p3,b3,e14,e15,e16,p6,b6,e5,b12,ga,hx2,dQ];refine Ah [] n2 ?_;simp[-getElem?_pos,-exists_and_left,-exists_and_right,p3,b3,e14,e15,e16,p6,b6,e5,b12,ga,hx2,dQ,hR'];refine Ah [] n3 ?_;simp[-getElem?_pos,-exists_and_left,-exists_and_right,p3,b3,e14,e15,e16,p6,b6,e5,b12,ga,hx2,dQ,hR']
    .have hj2:Ph ls=(ls.drop (k+1)).foldl QJ (some (m,s2)):=hj;rcases h5 with e5 |⟨st,rfl,e5,b12⟩
     .simp[-getElem?_pos,-exists_and_left,-exists_and_right,p3,b3,e14,e15,e16,p6,b6,e5,ga,hx2,Bd];refine Ah [] n1 ?_;simp[-getElem?_pos,-exists_and_left,-exists_and_right,p3,b3,e14,e15,e16,p6,b6,e5,ga,hx2,dQ];refine Ah [] n2 ?_;simp[-getElem?_pos,-exists_and_left,-exists_and_right,p3,b3,e14,e15,e16,p6,b6,e5,ga,hx2,dQ];refine Ah [] n3 ?_;simp[-getElem?_pos,-exists_and_left,-exists_and_right,p3,b3,e14,e15,e16,p6,b6,e5,ga,hx2,dQ];exact⟨Fb o_ o_,⟨k+1,m,s2,o_,hj2,o_,gm,g2,o_,⟨Iff.rfl,rfl,rfl⟩,rfl⟩,o_⟩
     .simp[-getElem?_pos,-exists_and_left,-exists_and_right,p3,b3,e14,e15,e16,p6,b6,e5,b12,ga,hx2,Bd];refine Ah [] n1 ?_;simp[-getElem?_pos,-exists_and_left,-exists_and_right,p3,b3,e14,e15,e16,p6,b6,e5,b12,ga,hx2,dQ];refine Ah [] n2 ?_;simp[-getElem?_pos,-exists_and_left,-exists_and_right,p3,b3,e14,e15,e16,p6,b6,e5,b12,ga,hx2,dQ];refine Ah [] n3 ?_;simp[-getElem?_pos,-exists_and_left,-exists_and_right,p3,b3,e14,e15,e16,p6,b6,e5,b12,ga,hx2,dQ];exact⟨Fb o_ o_,⟨k+1,m,s2,o_,hj2,o_,gm,g2,o_,⟨Iff.rfl,rfl,rfl⟩,rfl⟩,o_⟩
  .obtain rfl:k=ls.length:=by omega
   rw[List.drop_length]at hj;have hR':R=.tup [.sl false 186 11 (kE set),.agg (dQ sum),.bool true]:=by rw[hR,hj];rfl
   rcases h5 with e5 |⟨st,rfl,e5,b12⟩
   .simp[-getElem?_pos,-exists_and_left,-exists_and_right,p3,b3,e14,e15,e16,p6,b6,e5,dQ,hR']
    ((repeat' with_reducible apply And.intro)<;> try exact Ye)
   .simp[-getElem?_pos,-exists_and_left,-exists_and_right,p3,b3,e14,e15,e16,p6,b6,e5,b12,dQ,hR'];exact⟨EM BC,none,s_,rfl⟩
theorem QI{α:Type}{l:List α}{k:Nat}{x:α}(hx:l[k]? = some x):l.take (k+1)=l.take k++[x]:=by
 obtain⟨h1,rfl⟩:=Za.1 hx;rw[List.take_succ_eq_append_getElem h1]
theorem Q5(l:List Int)(n:Int)(hl:l.length<=1048576):Spec prog 92 [.sl true 3 1 (iE l),.int .i64 n] (.bool (decide (n∈l))):=by
 obtain⟨b,hb⟩:∃ b,b=decide (n∈l):=⟨_,rfl⟩;rw[<- hb];refine Bj func92 ntmps92 results92 ?_;simp[-getElem?_pos,-exists_and_left,-exists_and_right];refine Ec (fun σ=>∃ k:Nat,k<=l.length/\n ∉ l.take k/\σ.env 1=.int .i64 n/\σ.env 7=.sl true 3 1 (iE l)/\σ.env 8=.int .i64 l.length/\σ.env 9=.int .i64 k) (fun σ=>1048577-BU (σ.env 9)) ?_ ?_
 .exact⟨0,Zs _,s_⟩
 .rintro σ ⟨k,hk,hn,E⟩;by_cases ga:k<l.length
  .obtain⟨x,hx⟩:∃ x,l[k]? = some x:=⟨_,Z4 ga⟩;have hx2:=Yu hx;by_cases h:x=n
   .have hm:=Z6 hx;rw[h]at hm;rw[decide_eq_true hm]at hb;simp[-getElem?_pos,-exists_and_left,-exists_and_right,E,ga,hx2,h,hb]
   .have hn2:n ∉ l.take (k+1):=by
     rw[QI hx];simp only[Z9,Zh];exact fun hh=>hh.elim hn (fun e=>h e.symm)
    simp[-getElem?_pos,-exists_and_left,-exists_and_right,E,ga,hx2,h]
    ((repeat' with_reducible apply And.intro)<;> try exact Ye);exact⟨k+1,o_,hn2,o_⟩
  .obtain rfl:k=l.length:=by omega
   rw[List.take_length]at hn;rw[decide_eq_false hn]at hb;simp[-getElem?_pos,-exists_and_left,-exists_and_right,E,hb]
theorem Z4s(ls:List Lk)(v:Int)(hl:ls.length<=100000):Spec prog 186 [.sl true 186 11 (kE ls),.int .i64 v] (.own 186 11 (kE (GR ls v))):=by
 refine Bj func186 ntmps186 results186 ?_;simp[-getElem?_pos,-exists_and_left,-exists_and_right];refine Ec (fun σ=>∃ k st:Nat,k<=ls.length/\σ.env 1=.int .i64 v/\σ.env 5=.vw 8 st/\σ.env 9=.sl true 186 11 (kE ls)/\σ.env 10=.int .i64 ls.length/\σ.env 11=.int .i64 k/\σ.box 8=some ⟨186,11,st,kE (GR (ls.take k) v),true⟩) (fun σ=>100001-BU (σ.env 11)) ?_ ?_
 .exact⟨0,_,Zs _,s_,by simp;rfl,by simp[kE,GR]⟩
 .rintro σ ⟨k,st,hk,E⟩;have b8:=E.2.2.2.2.2;by_cases ga:k<ls.length
  .obtain⟨x,hx⟩:∃ x,ls[k]? = some x:=⟨_,Z4 ga⟩;have hx2:=Pm hx;have hrl:GR (ls.take (k+1)) v=GR (ls.take k) v++[x].filter (fun x=>!Ma x v):=by rw[QI hx];exact List.filter_append ..
   have hlen:(kE (GR (ls.take k) v)).length<=k:=by
    rw[oP];exact Nat.le_trans (List.length_filter_le _ _) AR
   by_cases h1:x.a=v
   .have hn:kE (GR (ls.take k) v)=kE (GR (ls.take (k+1)) v):=by rw[hrl];simp[-getElem?_pos,-exists_and_left,-exists_and_right,Ma,h1]
    generalize kE (GR (ls.take k) v)=E0 at *
    simp[-getElem?_pos,-exists_and_left,-exists_and_right,E,ga,hx2,Bd,h1]
    ((repeat' with_reducible apply And.intro)<;> try exact Ye);exact⟨k+1,st,o_,rfl,o_,rfl,hn⟩
   .by_cases h2:x.b=v
    .have hn:kE (GR (ls.take k) v)=kE (GR (ls.take (k+1)) v):=by rw[hrl];simp[-getElem?_pos,-exists_and_left,-exists_and_right,Ma,h2]
     generalize kE (GR (ls.take k) v)=E0 at *
     simp[-getElem?_pos,-exists_and_left,-exists_and_right,E,ga,hx2,Bd,h1,h2]
     ((repeat' with_reducible apply And.intro)<;> try exact Ye);exact⟨k+1,st,o_,rfl,o_,rfl,hn⟩
    .have hn:kE (GR (ls.take k) v)++[Bd x]=kE (GR (ls.take (k+1)) v):=by rw[hrl,VA];simp[-getElem?_pos,-exists_and_left,-exists_and_right,Ma,h1,h2]
     generalize kE (GR (ls.take k) v)=E0 at *
     simp[-getElem?_pos,-exists_and_left,-exists_and_right,E,ga,hx2,Bd,h1,h2]
     ((repeat' with_reducible apply And.intro)<;> try exact Ye);exact⟨k+1,_,o_,rfl,o_,rfl,hn⟩
  .obtain rfl:k=ls.length:=by omega
   rw[List.take_length]at b8;simp[-getElem?_pos,-exists_and_left,-exists_and_right,E]
def n19:List Int:=[1,2,3,4,5,6,7,8,9]
def Pn(ls:List Lk)(i:Nat):List Int:=(n19.take i).filter fun v=>ls.any fun x=>Ma x v
theorem Zjm(ls:List Lk){i:Nat}(h:i<9):Pn ls (i+1)=Pn ls i++if (ls.any fun x=>Ma x ((i:Int)+1))then [(i:Int)+1]else []:=by
 have e:n19[i]? = some ((i:Int)+1):=by
  obtain rfl|rfl|rfl|rfl|rfl|rfl|rfl|rfl|rfl:i=0∨i=1∨i=2∨i=3∨i=4∨i=5∨i=6∨i=7∨i=8:=by omega
  all_goals rfl
 unfold Pn;rw[QI e,List.filter_append];congr 1;simp[-getElem?_pos,-exists_and_left,-exists_and_right,List.filter_cons]
theorem Z31(ls:List Lk)(hl:ls.length<=100000):Spec prog 121 [.sl true 186 11 (kE ls)] (.own 3 1 (iE (TY ls))):=by
 refine Bj func121 ntmps121 results121 ?_;simp[-getElem?_pos,-exists_and_left,-exists_and_right];refine Ec (fun σ=>∃ i st:Nat,i<=9/\σ.env 0=.sl true 186 11 (kE ls)/\σ.env 3=.vw 7 st/\σ.env 4=.int .i64 ((i:Int)+1)/\σ.box 7=some ⟨3,1,st,iE (Pn ls i),true⟩) (fun σ=>11-BU (σ.env 4)) ?_ ?_
 .exact⟨0,_,Zs _,s_,by simp;rfl,s_,by simp[iE,Pn]⟩
 .rintro σ ⟨i,st,hi,e0,e3,e4,b7⟩;by_cases ga:i<9
  .have U8:(i:Int)+1<10:=by omega
   have hlen:(Pn ls i).length<=9:=Nat.le_trans (List.length_filter_le _ _) AR;have hst:=Zjm ls ga;obtain⟨v,hv⟩:∃ v:Int,v=(i:Int)+1:=⟨_,rfl⟩;rw[<- hv]at hst e4 U8;generalize Pn ls i=D at *
   simp[-getElem?_pos,-exists_and_left,-exists_and_right,e0,e3,e4,b7,U8];refine Ec (fun σ=>∃ k:Nat,k<=ls.length/\(∀ (j:Nat) y,j<k->ls[j]? = some y->Ma y v=false)/\σ.env 0=.sl true 186 11 (kE ls)/\σ.env 3=.vw 7 st/\σ.env 4=.int .i64 v/\σ.env 12=.sl true 186 11 (kE ls)/\σ.env 13=.int .i64 ls.length/\σ.env 14=.int .i64 k/\σ.box 7=some ⟨3,1,st,iE D,true⟩) (fun σ=>100001-BU (σ.env 14)) ?_ ?_
   .exact⟨0,Zs _,fun j y h=>by omega,by simp[e0],by simp[e3],by simp[e4],s_,s_,s_,by simp[b7]⟩
   .rintro σ2 ⟨k,hk,hup,f0,f3,f4,f12,f13,f14,g7⟩;by_cases gb:k<ls.length
    .obtain⟨x,hx⟩:∃ x,ls[k]? = some x:=⟨_,Z4 gb⟩;have hx2:=Pm hx;have hm:=Z6 hx
     have KU:Ma x v=true->iE D++[[.int .i64 v]]=iE (Pn ls (i+1)):=fun h=>by
      rw[hst,if_pos (List.any_eq_true.2 ⟨x,hm,h⟩),QH]
     by_cases h1:x.a=v
     .have hn:=KU (by simp[Ma,h1]);have hl2:(iE D).length<=9:=by simpa using hlen
      generalize iE D=E0 at *
      simp[-getElem?_pos,-exists_and_left,-exists_and_right,f0,f3,f4,f12,f13,f14,g7,gb,hx2,Bd,h1]
      ((repeat' with_reducible apply And.intro)<;> try exact Ye);all_goals exact⟨i+1,_,o_,rfl,o_,rfl,hn⟩
     .by_cases h2:x.b=v
      .have hn:=KU (by simp[Ma,h2]);have hl2:(iE D).length<=9:=by simpa using hlen
       generalize iE D=E0 at *
       simp[-getElem?_pos,-exists_and_left,-exists_and_right,f0,f3,f4,f12,f13,f14,g7,gb,hx2,Bd,h1,h2]
       ((repeat' with_reducible apply And.intro)<;> try exact Ye);all_goals exact⟨i+1,_,o_,rfl,o_,rfl,hn⟩
      .simp[-getElem?_pos,-exists_and_left,-exists_and_right,f0,f3,f4,f12,f13,f14,g7,gb,hx2,Bd,h1,h2]
       ((repeat' with_reducible apply And.intro)<;> try exact Ye);refine⟨k+1,o_,fun j y hj hy=>?_,o_⟩;rcases Nat.lt_or_ge j k with h|h
       .exact hup j y h hy
       .obtain rfl:j=k:=by omega
        rw[hx]at hy;cases hy;simp[-getElem?_pos,-exists_and_left,-exists_and_right,Ma,h1,h2]
    .obtain rfl:k=ls.length:=by omega
     simp[-getElem?_pos,-exists_and_left,-exists_and_right,f0,f3,f4,f12,f13,f14,g7,e4]
     ((repeat' with_reducible apply And.intro)<;> try exact Ye)
     have hno:(ls.any fun x=>Ma x v)=false:=by
      rw[List.any_eq_false];intro y hy;obtain⟨j,hj,rfl⟩:=ZM hy;rw[hup j _ hj (Z4 hj)];simp[-getElem?_pos,-exists_and_left,-exists_and_right]
     exact⟨i+1,st,o_,rfl,o_,⟨rfl,by rw[hst,hno];simp[-getElem?_pos,-exists_and_left,-exists_and_right]⟩⟩
  .obtain rfl:i=9:=by omega
   have:Pn ls 9=TY ls:=rfl;rw[this]at b7;simp[-getElem?_pos,-exists_and_left,-exists_and_right,e0,e3,e4,b7]
theorem ZfE{k:Lk}  :Ew k l=true↔k.a<l.a∨(k.a=l.a/\k.b<l.b):=by unfold Ew;simp
theorem Za2{k m:Lk}(h:Ew k l=true)(h':Ew l m=true):Ew k m=true:=by
 rw[ZfE]at *;omega
theorem Zcu:∀ {l:List Lk},RF l=true↔l.Pairwise fun x y=>Ew x y=true
 |[]=>by simp[RF]
 |[x]=>by simp[RF]
 |x::y::r=>by
  have ih:=Zcu (l:=y::r)
  simp only[RF,Zc]
  rw[ih]
  constructor
  .rintro⟨h1,h2⟩
   refine .cons (fun z hz=>?_) h2
   rcases Zn.1 hz with rfl|hz
   .exact h1
   .exact Za2 h1 (List.rel_of_pairwise_cons h2 hz)
  .intro h
   cases h with
   |cons h1 h2=>exact⟨h1 y s_,h2⟩
structure Dn(ls:List Lk):Prop where
 good:∀ k∈ls,D6 k
 F7:∀ k∈ls,QU k=true
 oQ:ls.Pairwise fun x y=>Ew x y=true
theorem Dn.nil :Dn []:=⟨s_,s_,.nil⟩
theorem ZiR  :(ls.Pairwise fun x y=>Ew x y=true)↔ ∀ (i:Nat) x y,ls[i]? = some x->ls[i+1]? = some y->Ew x y=true:=by
 rw[<- Zcu];induction ls with
 |nil=>simp[RF]
 |cons a r ih =>
  cases r with
  |nil=>simp[RF]
  |cons b r =>
   simp only[RF,Zc,ih];constructor
   .rintro⟨h1,h2⟩ i x y hx hy;cases i with
    |zero=>simp at hx hy;subst hx;subst hy;exact h1
    |succ i=>exact h2 i x y (by simpa using hx) (by simpa using hy)
   .intro h;exact⟨h 0 a b rfl rfl,fun i x y hx hy=>h (i+1) x y (by simpa using hx) (by simpa using hy)⟩
open Classical in
theorem ZjS(hg:∀ k∈ls,D6 k):U0 (ls.map IZ)=true↔Dn ls:=by
 unfold U0;rw[decide_eq_true_iff];constructor
 .intro h;refine⟨hg,fun k hk=>?_,ZiR.2 fun i x y hx hy=>?_⟩
  .obtain⟨i,hi,rfl⟩:=ZM hk;have h1:=h i (IZ ls[i]) (by simpa using hi) (by simp[hi]);rw[ZdR (hg _ hk)]at h1;exact h1.1
  .have hi:=(Za.1 hy).1;have h1:=(h (i+1) (IZ y) (by simpa using hi) (by simp[hy])).2 (IZ x) o_ (by simp[hx]);exact h1
 .intro h i l hi hl;rw[List.getElem?_map]at hl;cases hx:ls[i]? with
  |none=>rw[hx]at hl;simp at hl
  |some x =>
   rw[hx]at hl;obtain rfl:IZ x=l:=by simpa using hl
   have hm:=Z6 hx;refine⟨by rw[ZdR (hg x hm)];exact h.F7 x hm,fun p h0 hp=>?_⟩;rw[List.getElem?_map]at hp;cases hy:ls[i-1]? with
   |none=>rw[hy]at hp;simp at hp
   |some y =>
    rw[hy]at hp;obtain rfl:IZ y=p:=by simpa using hp
    exact ZiR.1 h.oQ (i-1) y x hy (by rw[show i-1+1=i by omega];exact hx)
theorem fQ{n:Int}  :Gr n=true↔0<=n/\n<=9:=by unfold Gr Be;simp
theorem VB{k:Lk}(h:QU k=true):(0<=k.a/\k.a<=9)/\(0<=k.b/\k.b<=9)/\k.a<k.b:=by
 unfold QU at h;simp only[Zc,decide_eq_true_eq,fQ]at h;exact⟨h.1,h.2.1,h.2.2.1⟩
theorem Dn.len(h:Dn ls):ls.length<=100:=by
 have key:∀ (i:Nat) x,ls[i]? = some x->(i:Int)<=10*x.a+x.b:=by
  intro i;induction i with
  |zero=>intro x hx;have:=VB (h.F7 x (Z6 hx));omega
  |succ i ih =>
   intro x hx;have hi:=(Za.1 hx).1;have hy:ls[i]? = some ls[i]:=Z4 o_;have h1:=ih _ hy;have h2:=ZiR.1 h.oQ i _ x hy hx;have h3:=VB (h.F7 x (Z6 hx));have h4:=VB (h.F7 _ (Z6 hy));rw[ZfE]at h2;omega
 rcases Nat.lt_or_ge 100 ls.length with hl|hl
 .have hx:ls[100]? = some ls[100]:=Z4 hl;have:=key _ _ hx;have h3:=VB (h.F7 _ (Z6 hx));omega
 .exact hl
theorem Zfu{set:List Lk}  :∀ x∈set.take (JJ set l),Ew x l=true:=by
 unfold JJ;induction set with
 |nil=>simp
 |cons a r ih =>
  intro x hx;by_cases ha:Ew a l=true
  .simp only[List.takeWhile_cons,ha,if_true,List.length_cons,List.take_succ_cons]at hx;rcases Zn.1 hx with rfl|hx
   .exact ha
   .exact ih x hx
  .simp[ha]at hx
theorem Zjv{k x:Lk}{e:Rt}(hk:QU k=true)(hl:QU l=true)(h:TX k l=some (x,e)):QU x=true:=by
 have ht:=Zp0 hk hl;rw[Za0]at h;split at h
 .rename_i hc;rw[<- ht]at hc;simp only[Option.some.injEq,Prod.mk.injEq]at h;rw[<- h.1];exact(Zc _ _▸hc).1
 .cases h
theorem Dn.add{set m:List Lk}{e:Rt}(hs:Dn set)(gl:D6 l)(vl:QU l=true)(h:Lm set l=some (m,e)):Dn m/\Bq e/\QC e=true:=by
 have hz:Bq (Dw 0):=YS AO;have hz2:QC (Dw 0)=true:=rfl;have htk:∀ k∈set.take (JJ set l),k∈set:=fun k hk=>ZT hk
 have hdr:∀ j,∀ k∈set.drop j,k∈set:=fun j k hk=>ZG hk
 unfold Lm at h;split at h
 .rename_i hn;cases h;refine⟨⟨fun k hk=>?_,fun k hk=>?_,?_⟩,hz,hz2⟩
  .rcases Z9.1 hk with h|h
   .exact hs.good k (htk k h)
   .rw[Zh.1 h];exact gl
  .rcases Z9.1 hk with h|h
   .exact hs.F7 k (htk k h)
   .rw[Zh.1 h];exact vl
  .rw[List.pairwise_append];exact⟨hs.oQ.sublist (List.take_sublist _ _),.cons s_ .nil,fun x hx y hy=>by rw[Zh.1 hy];exact Zfu x hx⟩
 .rename_i k hk;have hkm:=Z6 hk
  have hsp:set=set.take (JJ set l)++(k::set.drop (JJ set l+1)):=by
   obtain⟨h1,rfl⟩:=Za.1 hk;rw[<- List.drop_eq_getElem_cons h1,List.take_append_drop]
  have hasc:=hs.oQ;rw[hsp,List.pairwise_append]at hasc;obtain⟨a1,a2,a3⟩:=hasc;have a2h:∀ y∈set.drop (JJ set l+1),Ew k y=true:=fun y hy=>List.rel_of_pairwise_cons a2 hy
  have a2t:(set.drop (JJ set l+1)).Pairwise fun x y=>Ew x y=true:=by cases a2;assumption
  split at h
  .rename_i hlk;cases h
   have hd:set.drop (JJ set l)=k::set.drop (JJ set l+1):=by
    obtain⟨h1,rfl⟩:=Za.1 hk;exact List.drop_eq_getElem_cons h1
   refine⟨⟨fun x hx=>?_,fun x hx=>?_,?_⟩,hz,hz2⟩
   .rcases Z9.1 hx with h|h
    .exact hs.good x (htk x h)
    .rcases Zn.1 h with rfl|h
     .exact gl
     .exact hs.good x (hdr _ x h)
   .rcases Z9.1 hx with h|h
    .exact hs.F7 x (htk x h)
    .rcases Zn.1 h with rfl|h
     .exact vl
     .exact hs.F7 x (hdr _ x h)
   .rw[List.pairwise_append,hd];refine⟨a1,.cons (fun y hy=>?_) a2,fun x hx y hy=>?_⟩
    .rcases Zn.1 hy with rfl|hy
     .exact hlk
     .exact Za2 hlk (a2h y hy)
    .rcases Zn.1 hy with rfl|hy
     .exact Zfu x hx
     .exact a3 x hx y hy
  .split at h
   .cases h
   .rename_i x' e' hm;cases h;obtain⟨g1,g2,g3,g4,g5⟩:=Z67 hm;have hv:=Zjv (hs.F7 k hkm) vl hm;have l1:∀ y,Ew y x'=Ew y k:=fun y=>by unfold Ew;rw[g4,g5]
    have l2:∀ y,Ew x' y=Ew k y:=fun y=>by unfold Ew;rw[g4,g5]
    refine⟨⟨fun x hx=>?_,fun x hx=>?_,?_⟩,g2,g3⟩
    .rcases Z9.1 hx with h|h
     .exact hs.good x (htk x h)
     .rcases Zn.1 h with rfl|h
      .exact g1
      .exact hs.good x (hdr _ x h)
    .rcases Z9.1 hx with h|h
     .exact hs.F7 x (htk x h)
     .rcases Zn.1 h with rfl|h
      .exact hv
      .exact hs.F7 x (hdr _ x h)
    .rw[List.pairwise_append];refine⟨a1,.cons (fun y hy=>by rw[l2];exact a2h y hy) a2t,fun x hx y hy=>?_⟩;rcases Zn.1 hy with rfl|hy
     .rw[l1];exact a3 x hx k s_
     .exact a3 x hx y (by simp[hy])
theorem fT{m:List Lk}{e:Rt}(hg:∀ k∈ls,D6 k)(hv:∀ k∈ls,QU k=true)(h:Ph ls=some (m,e)):Dn m/\Bq e/\QC e=true:=by
 have key:∀ (ls:List Lk) (s:List Lk) (q:Rt),(∀ k∈ls,D6 k)->(∀ k∈ls,QU k=true)->Dn s->Bq q->QC q=true->ls.foldl QJ (some (s,q))=some (m,e)->Dn m/\Bq e/\QC e=true:=by
  intro ls;induction ls with
  |nil=>intro s q _ _ hs hq hq2 h;cases h;exact⟨hs,hq,hq2⟩
  |cons x r ih =>
   intro s q hg hv hs hq hq2 h;rw[List.foldl_cons]at h
   have hno:∀ l:List Lk,l.foldl QJ none=none:=fun l=>by induction l with
    |nil=>rfl
    |cons _ l ih=>exact ih
   cases ha:Lm s x with
   |none =>
    have:QJ (some (s,q)) x=none:=by unfold QJ;dsimp only;rw[ha]
    rw[this,hno]at h;cases h
   |some p =>
    obtain⟨t,f⟩:=p;obtain⟨h1,h2,h3⟩:=hs.add (hg x s_) (hv x s_) ha;have hst:QJ (some (s,q)) x=if QC (Xc q f)then some (t,Xc q f)else none:=by unfold QJ;dsimp only;rw[ha]
    rw[hst]at h;split at h
    .rename_i hok;exact ih t _ (fun k hk=>hg k (by simp[hk])) (fun k hk=>hv k (by simp[hk])) h1 (Q2 _ _) hok h
    .rw[hno]at h;cases h
 exact key ls [] (Dw 0) hg hv .nil (YS AO) rfl h
theorem Zmt(σ:AS)(EZ i j id:Nat)(E:TypeId)(sz t:Nat):(σ.ownB EZ i j id E sz).env t=σ.env t:=by
 unfold AS.ownB;split
 .split<;>rfl
 .rfl
def ZoS(bx:Option AY)(old:Option AY)(clk EZ i j id:Nat)(E:TypeId)(sz t:Nat):Option AY:=match bx with
 |some b=>match b.els[i]? with
  |some cs=>if t=EZ then some { b with els:=b.els.set i (cs.set j (.vw id clk))}else if t=id then some ⟨E,sz,clk,[],true⟩else old
  |none=>old
 |none=>old
theorem ZmT(σ:AS)(EZ i j id:Nat)(E:TypeId)(sz t:Nat):(σ.ownB EZ i j id E sz).box t=ZoS (σ.box EZ) (σ.box t) σ.clk EZ i j id E sz t:=by
 unfold AS.ownB ZoS;cases h:σ.box EZ with
 |none=>rfl
 |some b =>
  dsimp only;cases h2:b.els[i]? with
  |none=>rfl
  |some cs=>rfl
attribute [simp] Zmt ZmT ZoS
structure Pr where
 nd:Int
 sh:Rt
 dx:Rt
 dy:Rt
structure Cd where
 nd:Int
 tot:Rt
 ps:List Pr
def Cv(p:Pr):List AV:=[.int .i64 p.nd,.bool (decide (p.sh.num<0)),.sl false 3 1 (iE (Zz p.sh.num.natAbs)),.sl false 3 1 (iE (Zz p.sh.den)),.bool (decide (p.dx.num<0)),.sl false 3 1 (iE (Zz p.dx.num.natAbs)),.sl false 3 1 (iE (Zz p.dx.den)),.bool (decide (p.dy.num<0)),.sl false 3 1 (iE (Zz p.dy.num.natAbs)),.sl false 3 1 (iE (Zz p.dy.den))]
def pE(l:List Pr):List (List AV):=l.map Cv
@[simp] theorem ZqI(l:List Pr):(pE l).length=l.length:=by simp[pE]
theorem Po{l:List Pr}{k:Nat}{x:Pr}(h:l[k]? = some x):(pE l)[k]? = some (Cv x):=by simp[pE,h]
theorem ZiX(l:List Pr)(x:Pr):pE l++[Cv x]=pE (l++[x]):=by simp[pE]
@[simp] theorem Zt5 :pE []=[]:=rfl
def Dg(c:Cd):List AV:=[.int .i64 c.nd,.bool (decide (c.tot.num<0)),.sl false 3 1 (iE (Zz c.tot.num.natAbs)),.sl false 3 1 (iE (Zz c.tot.den)),.sl false 233 10 (pE c.ps)]
def cE(l:List Cd):List (List AV):=l.map Dg
@[simp] theorem Zti(l:List Cd):(cE l).length=l.length:=by simp[cE]
theorem ZkG{l:List Cd}{k:Nat}{x:Cd}(h:l[k]? = some x):(cE l)[k]? = some (Dg x):=by simp[cE,h]
theorem ZpH(l:List Cd)(x:Cd):cE l++[Dg x]=cE (l++[x]):=by simp[cE]
@[simp] theorem Zth :cE []=[]:=rfl
def oU(p:Pr):Prop:=Bq p.sh/\Bq p.dx/\Bq p.dy
def Mb(c:Cd):Prop:=Bq c.tot/\∀ p∈c.ps,oU p
structure VC(c:Cd):Prop where
 nd:1<=c.nd/\c.nd<=9
 pn:∀ p∈c.ps,0<=p.nd/\p.nd<=9
 len:c.ps.length<=10
structure Pt where
 x:Rt
 y:Rt
def Dx(p:Pt):List AV:=[.bool (decide (p.x.num<0)),.sl false 3 1 (iE (Zz p.x.num.natAbs)),.sl false 3 1 (iE (Zz p.x.den)),.bool (decide (p.y.num<0)),.sl false 3 1 (iE (Zz p.y.num.natAbs)),.sl false 3 1 (iE (Zz p.y.den))]
def EN(l:List Pt):List (List AV):=l.map Dx
@[simp] theorem Zsj(l:List Pt):(EN l).length=l.length:=by simp[EN]
theorem Zec{l:List Pt}{k:Nat}{x:Pt}(h:l[k]? = some x):(EN l)[k]? = some (Dx x):=by simp[EN,h]
theorem ZoJ(l:List Pt)(k:Nat)(x:Pt):(EN l).set k (Dx x)=EN (l.set k x):=by simp[EN,List.map_set]
def Kw(p:Pt):Prop:=Bq p.x/\Bq p.y
structure Tn where
 nd:Int
 up:Int
 own:List Lk
 cd:Cd
 ms:List Lk
 en:Rt
def Fe(n:Tn):List AV:=[.int .i64 n.nd,.int .i64 n.up,.sl false 186 11 (kE n.own),.int .i64 n.cd.nd,.bool (decide (n.cd.tot.num<0)),.sl false 3 1 (iE (Zz n.cd.tot.num.natAbs)),.sl false 3 1 (iE (Zz n.cd.tot.den)),.sl false 233 10 (pE n.cd.ps),.sl false 186 11 (kE n.ms),.bool (decide (n.en.num<0)),.sl false 3 1 (iE (Zz n.en.num.natAbs)),.sl false 3 1 (iE (Zz n.en.den))]
def tE(l:List Tn):List (List AV):=l.map Fe
@[simp] theorem Zqm(l:List Tn):(tE l).length=l.length:=by simp[tE]
theorem oV{l:List Tn}{k:Nat}{x:Tn}(h:l[k]? = some x):(tE l)[k]? = some (Fe x):=by simp[tE,h]
theorem Ziu(l:List Tn)(x:Tn):tE l++[Fe x]=tE (l++[x]):=by simp[tE]
@[simp] theorem ZsY :tE []=[]:=rfl
def rE(l:List Rt):List (List AV):=l.map dQ
@[simp] theorem Zqx(l:List Rt):(rE l).length=l.length:=by simp[rE]
theorem ZiQ{l:List Rt}{k:Nat}{x:Rt}(h:l[k]? = some x):(rE l)[k]? = some (dQ x):=by simp[rE,h]
theorem ZiP(l:List Rt)(x:Rt):rE l++[dQ x]=rE (l++[x]):=by simp[rE]
@[simp] theorem Zt3 :rE []=[]:=rfl
theorem oW(r:Rt)(g:Bq r):Spec prog 130 [.agg (dQ r)] (.bool (QC r)):=by
 have h:=oO (Lp r) (by show(Zz _).length<=_;have:=g.nl;omega) (by show(Zz _).length<=_;have:=g.dl;omega);rw[oI g,oN]at h;exact h
theorem Zdz(r:Rt)(g:Bq r):Spec prog 183 [.agg (dQ r)] (.int .i64 (IY r)):=by
 have h:=Z33 (Lp r) (by show(Zz _).length<=_;have:=g.nl;omega) (by show(Zz _).length<=_;have:=g.dl;omega);rw[Z7Y g,oN]at h;exact h
theorem Z1V(a b:List Int)(ha:a.length<=1048576)(hb:b.length<=1048576):Spec prog 37 [.sl true 3 1 (iE a),.sl true 3 1 (iE b)] (.bool (decide (a=b))):=by
 obtain⟨B,hB⟩:∃ B,B=decide (a=b):=⟨_,rfl⟩;rw[<- hB];by_cases hl:a.length=b.length
 .refine Bj func37 ntmps37 results37 ?_;simp -implicitDefEqProofs [-getElem?_pos,hl];refine Ec (fun σ=>∃ k:Nat,k<=a.length/\a.take k=b.take k/\σ.env 1=.sl true 3 1 (iE b)/\σ.env 12=.sl true 3 1 (iE a)/\σ.env 13=.int .i64 b.length/\σ.env 14=.int .i64 k) (fun σ=>1048577-BU (σ.env 14)) ?_ ?_
  .exact⟨0,Zs _,s_⟩
  .rintro σ ⟨k,hk,ht,E⟩;by_cases ga:k<b.length
   .obtain⟨x,hx⟩:∃ x,a[k]? = some x:=⟨_,Z4 o_⟩;obtain⟨y,hy⟩:∃ y,b[k]? = some y:=⟨_,Z4 ga⟩;have hx2:=Yu hx;have hy2:=Yu hy;by_cases h:x=y
    .subst h;simp -implicitDefEqProofs [-getElem?_pos,E,ga,hx2,hy2]
     ((repeat' with_reducible apply And.intro)<;> try exact Ye);exact⟨k+1,o_,by rw[QI hx,QI hy,ht],o_⟩
    .have hne:a≠b:=fun e=>by subst e;rw[hx]at hy;exact h (Option.some.inj hy)
     rw[decide_eq_false hne]at hB;simp -implicitDefEqProofs [-getElem?_pos,E,ga,hx2,hy2,h,hB]
   .have e:a=b:=by
     rw[show k=a.length by omega,List.take_length]at ht;rw[ht,hl,List.take_length]
    rw[decide_eq_true e]at hB;simp -implicitDefEqProofs [-getElem?_pos,E,ga,hB]
 .have hne:a≠b:=fun e=>hl (by rw[e])
  rw[decide_eq_false hne]at hB;have hl2:¬(a.length:Int)=(b.length:Int):=by omega
  refine Bj func37 ntmps37 results37 ?_;simp -implicitDefEqProofs [-getElem?_pos,hl,hl2,hB]
theorem Zga{a b:Nat}(h:Zz a=Zz b):a=b:=by rw[<- ZJ a,<- ZJ b,h]
theorem Xy(r s:Rt)(gr:Bq r)(gs:Bq s):Spec prog 16 [.agg (dQ r),.agg (dQ s)] (.bool (decide (r=s))):=by
 have n1:=Z1V (Zz r.num.natAbs) (Zz s.num.natAbs) (by have:=gr.nl;omega) (by have:=gs.nl;omega);have n2:=Z1V (Zz r.den) (Zz s.den) (by have:=gr.dl;omega) (by have:=gs.dl;omega)
 have key:decide (r=s)=((decide (r.num<0)== decide (s.num<0)) && (decide (Zz r.num.natAbs=Zz s.num.natAbs) && decide (Zz r.den=Zz s.den))):=by
  rw[Bool.eq_iff_iff];simp only[decide_eq_true_eq,Zc,beq_iff_eq,decide_eq_decide];constructor
  .rintro rfl;exact⟨Iff.rfl,rfl,rfl⟩
  .rintro⟨h1,h2,h3⟩;have h2:=Zga h2;have h3:=Zga h3;obtain⟨n,d⟩:=r;obtain⟨n',d'⟩:=s;simp only at h1 h2 h3;congr 1;omega
 rw[key];generalize decide (Zz r.num.natAbs=Zz s.num.natAbs)=b1 at *
 generalize decide (Zz r.den=Zz s.den)=b2 at *
 simp only[dQ];generalize iE (Zz r.num.natAbs)=A at *
 generalize iE (Zz s.num.natAbs)=A' at *
 generalize iE (Zz r.den)=D at *
 generalize iE (Zz s.den)=D' at *
 generalize decide (r.num<0)=c1 at *
 generalize decide (s.num<0)=c2 at *
 cases c1<;>cases c2<;>cases b1;all_goals refine Bj func16 ntmps16 results16 ?_
 all_goals first |(simp -implicitDefEqProofs [-getElem?_pos];done)|(simp -implicitDefEqProofs [-getElem?_pos];refine Ah [] n1 ?_;simp -implicitDefEqProofs [-getElem?_pos];done)|(simp -implicitDefEqProofs [-getElem?_pos];refine Ah [] n1 ?_;simp -implicitDefEqProofs [-getElem?_pos];refine Ah [] n2 ?_;simp -implicitDefEqProofs [-getElem?_pos];done)
theorem Z1e(r s:Rt)(gr:Bq r)(gs:Bq s):Spec prog 90 [.agg (dQ r),.agg (dQ s)] (.agg (dQ (Xc r s))):=by
 have n1:=oW r gr;have n2:=oW s gs;have n3:=Yy r s gr gs;have hz:QC r=false∨QC s=false->Xc r s=zR:=fun h=>by unfold Xc;rcases h with h|h<;>rw[h]<;> simp[-getElem?_pos]
 cases h1:QC r
 .rw[hz (.inl h1),Jb];rw[h1]at n1;refine Bj func90 ntmps90 results90 ?_;simp -implicitDefEqProofs [-getElem?_pos,dQ];refine Ah [] n1 ?_;simp -implicitDefEqProofs [-getElem?_pos,dQ]
 .cases h2:QC s
  .rw[hz (.inr h2),Jb];rw[h1]at n1;rw[h2]at n2;refine Bj func90 ntmps90 results90 ?_;simp -implicitDefEqProofs [-getElem?_pos,dQ];refine Ah [] n1 ?_;simp -implicitDefEqProofs [-getElem?_pos,dQ];refine Ah [] n2 ?_;simp -implicitDefEqProofs [-getElem?_pos,dQ]
  .rw[h1]at n1;rw[h2]at n2;generalize Xc r s=t at *
   refine Bj func90 ntmps90 results90 ?_;simp -implicitDefEqProofs [-getElem?_pos,dQ];refine Ah [] n1 ?_;simp -implicitDefEqProofs [-getElem?_pos,dQ];refine Ah [] n2 ?_;simp -implicitDefEqProofs [-getElem?_pos,dQ];refine Ah [] n3 ?_;simp -implicitDefEqProofs [-getElem?_pos,dQ]
theorem YD(l:List ByteArray)(s:ByteArray)(hl:l.length<=100000):AF prog 133 [.sl true 9 1 (sE l),.str s] (fun r=>∃ n:Int,r=.int .i64 n/\-1<=n/\n<l.length/\(Q3 l s=true->0<=n)):=by
 refine BI func133 ntmps133 results133 ?_;simp[-getElem?_pos,-exists_and_left,-exists_and_right,-Z3];refine ZF (fun σ=>∃ k:Nat,k<=l.length/\(∀ x∈l.take k,x.toList≠s.toList)/\σ.env 1=.str s/\σ.env 7=.sl true 9 1 (sE l)/\σ.env 8=.int .i64 l.length/\σ.env 9=.int .i64 k) (fun σ=>100001-BU (σ.env 9)) (AZ _) ?_ ?_
 .exact⟨0,o_,s_⟩
 .rintro σ ⟨k,hk,hno,E⟩;by_cases ga:k<l.length
  .obtain⟨x,hx⟩:∃ x,l[k]? = some x:=⟨_,Z4 ga⟩;have hx2:=Zqs hx;by_cases h:x.toList=s.toList
   .have hb:(x.toList == s.toList)=true:=by simpa using h
    simp[-getElem?_pos,-exists_and_left,-exists_and_right,-Z3,E,ga,hx2,hb];refine Zr (r:=.int .i64 k) ?_ rfl ⟨k,rfl,o_,o_,fun _=>by omega⟩;simp[-getElem?_pos,-exists_and_left,-exists_and_right,-Z3]
   .have hb:(x.toList == s.toList)=false:=by simpa using h
    simp[-getElem?_pos,-exists_and_left,-exists_and_right,-Z3,E,ga,hx2,hb]
    ((repeat' with_reducible apply And.intro)<;> try exact Ye);refine BD (AZ _) ⟨k+1,o_,fun y hy=>?_,by simp[E]⟩ (by simp[E];omega);rw[QI hx]at hy;rcases Z9.1 hy with h'|h'
    .exact hno y h'
    .rw[Zh.1 h'];exact h
  .obtain rfl:k=l.length:=by omega
   rw[List.take_length]at hno;simp[-getElem?_pos,-exists_and_left,-exists_and_right,-Z3,E];refine Zr (r:=.int .i64 (-1)) ?_ rfl ⟨-1,rfl,o_,o_,fun h=>?_⟩
   .simp[-getElem?_pos,-exists_and_left,-exists_and_right,-Z3]
   .obtain⟨x,hx,he⟩:=Zhy.1 h;exact absurd he (hno x hx)
theorem Z4D(l:List A7)(hs:K3 l)(s:ByteArray):AF prog 147 [.sl true 35 8 (fE l),.str s] (fun r=>∃ n:Int,r=.int .i64 n/\0<=n/\n<=9):=by
 have n0:=YU l hs;cases hf:YW l
 .rw[hf]at n0;refine BI func147 ntmps147 results147 ?_;simp[-getElem?_pos,-exists_and_left,-exists_and_right,-Z3];refine Ah [] n0 ?_;simp[-getElem?_pos,-exists_and_left,-exists_and_right,-Z3];refine Zr (r:=.int .i64 0) ?_ rfl ⟨0,rfl,o_,o_⟩;simp[-getElem?_pos,-exists_and_left,-exists_and_right,-Z3]
 .rw[hf]at n0;obtain⟨h1,h2,h3⟩:=X5 hf;have n1:=Vx l hs;have n2:=YD (Yk l) s o_;refine BI func147 ntmps147 results147 ?_;simp[-getElem?_pos,-exists_and_left,-exists_and_right,-Z3];refine Ah [] n0 ?_;simp[-getElem?_pos,-exists_and_left,-exists_and_right,-Z3];refine Ah [] n1 ?_;simp[-getElem?_pos,-exists_and_left,-exists_and_right,-Z3];refine Zv [] n2 ?_;rintro _ ⟨n,rfl,a1,a2,_⟩;simp[-getElem?_pos,-exists_and_left,-exists_and_right,-Z3]
  ((repeat' with_reducible apply And.intro)<;> try exact Ye);refine Zr (r:=.int .i64 (n+1)) ?_ rfl ⟨n+1,rfl,o_,o_⟩;simp[-getElem?_pos,-exists_and_left,-exists_and_right,-Z3]
theorem J1(n:Int):Spec prog 139 [.int .i64 n] (.bool (decide (-1000000<=n/\n<=1000000))):=by
 by_cases h1:-1000000<=n
 .by_cases h2:n<=1000000
  .refine Bj func139 ntmps139 results139 ?_;simp[-getElem?_pos,-exists_and_left,-exists_and_right,-Z3,h1,h2]
  .refine Bj func139 ntmps139 results139 ?_;simp[-getElem?_pos,-exists_and_left,-exists_and_right,-Z3,h1,h2]
 .refine Bj func139 ntmps139 results139 ?_;simp[-getElem?_pos,-exists_and_left,-exists_and_right,-Z3,h1]
theorem J2(a b w x y:Int)(hx:-9000000<=x/\x<=9000000)(hy:-9000000<=y/\y<=9000000):AF prog 148 [.int .i64 a,.int .i64 b,.int .i64 w,.int .i64 x,.int .i64 y] (fun r=>∃ (l:Lk) (ok:Bool),r=.tup [.agg (Bd l),.bool ok]/\D6 l):=by
 have hno:∃ (l:Lk) (ok:Bool),AV.tup [.agg (Bd U7),.bool false]=.tup [.agg (Bd l),.bool ok]/\D6 l:=⟨U7,false,rfl,.zero,.zero,.zero⟩;have n1:=Xu a;have n2:=Xu b;cases h1:Gr a
 .rw[h1]at n1;refine BI func148 ntmps148 results148 ?_;simp[-getElem?_pos,-exists_and_left,-exists_and_right,-Z3];refine Ah [] n1 ?_;simp[-getElem?_pos,-exists_and_left,-exists_and_right,-Z3];refine Zr ?_ rfl hno;simp[-getElem?_pos,-exists_and_left,-exists_and_right,-Z3,Lt]
 rw[h1]at n1;cases h2:Gr b
 .rw[h2]at n2;refine BI func148 ntmps148 results148 ?_;simp[-getElem?_pos,-exists_and_left,-exists_and_right,-Z3];refine Ah [] n1 ?_;simp[-getElem?_pos,-exists_and_left,-exists_and_right,-Z3];refine Ah [] n2 ?_;simp[-getElem?_pos,-exists_and_left,-exists_and_right,-Z3];refine Zr ?_ rfl hno;simp[-getElem?_pos,-exists_and_left,-exists_and_right,-Z3,Lt]
 rw[h2]at n2;have ha:=fQ.1 h1;have hb:=fQ.1 h2;by_cases h3:a=b
 .refine BI func148 ntmps148 results148 ?_;simp[-getElem?_pos,-exists_and_left,-exists_and_right,-Z3];refine Ah [] n1 ?_;simp[-getElem?_pos,-exists_and_left,-exists_and_right,-Z3];refine Ah [] n2 ?_;simp[-getElem?_pos,-exists_and_left,-exists_and_right,-Z3,h3];refine Zr ?_ rfl hno;simp[-getElem?_pos,-exists_and_left,-exists_and_right,-Z3,Lt]
 by_cases h4:w<1
 .refine BI func148 ntmps148 results148 ?_;simp[-getElem?_pos,-exists_and_left,-exists_and_right,-Z3];refine Ah [] n1 ?_;simp[-getElem?_pos,-exists_and_left,-exists_and_right,-Z3];refine Ah [] n2 ?_;simp[-getElem?_pos,-exists_and_left,-exists_and_right,-Z3,h3,h4];refine Zr ?_ rfl hno;simp[-getElem?_pos,-exists_and_left,-exists_and_right,-Z3,Lt]
 by_cases h5:9999<w
 .refine BI func148 ntmps148 results148 ?_;simp[-getElem?_pos,-exists_and_left,-exists_and_right,-Z3];refine Ah [] n1 ?_;simp[-getElem?_pos,-exists_and_left,-exists_and_right,-Z3];refine Ah [] n2 ?_;simp[-getElem?_pos,-exists_and_left,-exists_and_right,-Z3,h3,h4,h5];refine Zr ?_ rfl hno;simp[-getElem?_pos,-exists_and_left,-exists_and_right,-Z3,Lt]
 have n3:=J1 x;have n4:=J1 y;cases h6:decide (-1000000<=x/\x<=1000000)
 .rw[h6]at n3;refine BI func148 ntmps148 results148 ?_;simp[-getElem?_pos,-exists_and_left,-exists_and_right,-Z3];refine Ah [] n1 ?_;simp[-getElem?_pos,-exists_and_left,-exists_and_right,-Z3];refine Ah [] n2 ?_;simp[-getElem?_pos,-exists_and_left,-exists_and_right,-Z3,h3,h4,h5];refine Ah [] n3 ?_;simp[-getElem?_pos,-exists_and_left,-exists_and_right,-Z3,h3,h4,h5];refine Zr ?_ rfl hno;simp[-getElem?_pos,-exists_and_left,-exists_and_right,-Z3,Lt]
 rw[h6]at n3;cases h7:decide (-1000000<=y/\y<=1000000)
 .rw[h7]at n4;refine BI func148 ntmps148 results148 ?_;simp[-getElem?_pos,-exists_and_left,-exists_and_right,-Z3];refine Ah [] n1 ?_;simp[-getElem?_pos,-exists_and_left,-exists_and_right,-Z3];refine Ah [] n2 ?_;simp[-getElem?_pos,-exists_and_left,-exists_and_right,-Z3,h3,h4,h5];refine Ah [] n3 ?_;simp[-getElem?_pos,-exists_and_left,-exists_and_right,-Z3,h3,h4,h5];refine Ah [] n4 ?_;simp[-getElem?_pos,-exists_and_left,-exists_and_right,-Z3,h3,h4,h5];refine Zr ?_ rfl hno;simp[-getElem?_pos,-exists_and_left,-exists_and_right,-Z3,Lt]
 rw[h7]at n4;have k0:=Yf w o_ o_;by_cases h8:b<a
 .have k1:=Yf (-x) o_ o_;have k2:=Yf (-y) o_ o_;refine BI func148 ntmps148 results148 ?_;simp[-getElem?_pos,-exists_and_left,-exists_and_right,-Z3];refine Ah [] n1 ?_;simp[-getElem?_pos,-exists_and_left,-exists_and_right,-Z3];refine Ah [] n2 ?_;simp[-getElem?_pos,-exists_and_left,-exists_and_right,-Z3,h3,h4,h5];refine Ah [] n3 ?_;simp[-getElem?_pos,-exists_and_left,-exists_and_right,-Z3,h3,h4,h5];refine Ah [] n4 ?_;simp[-getElem?_pos,-exists_and_left,-exists_and_right,-Z3,h3,h4,h5,h8]
  ((repeat' with_reducible apply And.intro)<;> try exact Ye);refine Ah [] k0 ?_;simp[-getElem?_pos,-exists_and_left,-exists_and_right,-Z3];refine Ah [] k1 ?_;simp[-getElem?_pos,-exists_and_left,-exists_and_right,-Z3];refine Ah [] k2 ?_;simp[-getElem?_pos,-exists_and_left,-exists_and_right,-Z3,dQ];refine Zr (r:=.tup [.agg (Bd ⟨b,a,Dw w,Dw (-x),Dw (-y)⟩),.bool true]) ?_ rfl ⟨_,true,rfl,YS o_,YS o_,YS o_⟩;simp[-getElem?_pos,-exists_and_left,-exists_and_right,-Z3,Bd,dQ]
 .have k1:=Yf x o_ o_;have k2:=Yf y o_ o_;refine BI func148 ntmps148 results148 ?_;simp[-getElem?_pos,-exists_and_left,-exists_and_right,-Z3];refine Ah [] n1 ?_;simp[-getElem?_pos,-exists_and_left,-exists_and_right,-Z3];refine Ah [] n2 ?_;simp[-getElem?_pos,-exists_and_left,-exists_and_right,-Z3,h3,h4,h5];refine Ah [] n3 ?_;simp[-getElem?_pos,-exists_and_left,-exists_and_right,-Z3,h3,h4,h5];refine Ah [] n4 ?_;simp[-getElem?_pos,-exists_and_left,-exists_and_right,-Z3,h3,h4,h5,h8];refine Ah [] k0 ?_;simp[-getElem?_pos,-exists_and_left,-exists_and_right,-Z3];refine Ah [] k1 ?_;simp[-getElem?_pos,-exists_and_left,-exists_and_right,-Z3];refine Ah [] k2 ?_;simp[-getElem?_pos,-exists_and_left,-exists_and_right,-Z3,dQ];refine Zr (r:=.tup [.agg (Bd ⟨a,b,Dw w,Dw x,Dw y⟩),.bool true]) ?_ rfl ⟨_,true,rfl,YS o_,YS o_,YS o_⟩;simp[-getElem?_pos,-exists_and_left,-exists_and_right,-Z3,Bd,dQ]
theorem Xx(x y t:Int):AF prog 150 [.int .i64 x,.int .i64 y,.int .i64 t] (fun r=>∃ a b:Int,r=.tup [.int .i64 a,.int .i64 b]/\(-1000000<=a/\a<=1000000)/\(-1000000<=b/\b<=1000000)):=by
 have hno:∃ a b:Int,AV.tup [.int .i64 0,.int .i64 0]=.tup [.int .i64 a,.int .i64 b]/\(-1000000<=a/\a<=1000000)/\(-1000000<=b/\b<=1000000):=⟨0,0,rfl,o_,o_⟩;by_cases h1:t<0
 .refine BI func150 ntmps150 results150 ?_;simp[-getElem?_pos,-exists_and_left,-exists_and_right,-Z3,h1];refine Zr ?_ rfl hno;simp[-getElem?_pos,-exists_and_left,-exists_and_right,-Z3]
 by_cases h2:3<t
 .refine BI func150 ntmps150 results150 ?_;simp[-getElem?_pos,-exists_and_left,-exists_and_right,-Z3,h1,h2];refine Zr ?_ rfl hno;simp[-getElem?_pos,-exists_and_left,-exists_and_right,-Z3]
 have n3:=J1 x;have n4:=J1 y;cases h6:decide (-1000000<=x/\x<=1000000)
 .rw[h6]at n3;refine BI func150 ntmps150 results150 ?_;simp[-getElem?_pos,-exists_and_left,-exists_and_right,-Z3,h1,h2];refine Ah [] n3 ?_;simp[-getElem?_pos,-exists_and_left,-exists_and_right,-Z3,h1,h2];refine Zr ?_ rfl hno;simp[-getElem?_pos,-exists_and_left,-exists_and_right,-Z3]
 rw[h6]at n3;have hx:=of_decide_eq_true h6;cases h7:decide (-1000000<=y/\y<=1000000)
 .rw[h7]at n4;refine BI func150 ntmps150 results150 ?_;simp[-getElem?_pos,-exists_and_left,-exists_and_right,-Z3,h1,h2];refine Ah [] n3 ?_;simp[-getElem?_pos,-exists_and_left,-exists_and_right,-Z3,h1,h2];refine Ah [] n4 ?_;simp[-getElem?_pos,-exists_and_left,-exists_and_right,-Z3,h1,h2];refine Zr ?_ rfl hno;simp[-getElem?_pos,-exists_and_left,-exists_and_right,-Z3]
 rw[h7]at n4;have hy:=of_decide_eq_true h7;refine BI func150 ntmps150 results150 ?_;simp[-getElem?_pos,-exists_and_left,-exists_and_right,-Z3,h1,h2];refine Ah [] n3 ?_;simp[-getElem?_pos,-exists_and_left,-exists_and_right,-Z3,h1,h2];refine Ah [] n4 ?_;simp[-getElem?_pos,-exists_and_left,-exists_and_right,-Z3,h1,h2];refine ZF (fun σ=>∃ (k:Nat) (a b:Int),(k:Int)<=t/\(-1000000<=a/\a<=1000000)/\(-1000000<=b/\b<=1000000)/\σ.env 0=.int .i64 a/\σ.env 1=.int .i64 b/\σ.env 2=.int .i64 t/\σ.env 8=.int .i64 k) (fun σ=>4-BU (σ.env 8)) (AZ _) ?_ ?_
 .exact⟨0,x,y,o_,hx,hy,s_⟩
 .rintro σ ⟨k,a,b,hk,ha,hb,E⟩;by_cases ga:(k:Int)< t
  .simp[-getElem?_pos,-exists_and_left,-exists_and_right,-Z3,E,ga]
   ((repeat' with_reducible apply And.intro)<;> try exact Ye);refine BD (AZ _) ⟨k+1,-b,a,o_,o_,ha,by simp[E]⟩ (by simp[E];omega)
  .simp[-getElem?_pos,-exists_and_left,-exists_and_right,-Z3,E,ga];refine Zr (r:=.tup [.int .i64 a,.int .i64 b]) ?_ rfl ⟨a,b,rfl,ha,hb⟩;simp[-getElem?_pos,-exists_and_left,-exists_and_right,-Z3,E,ga]
end Go.Proofs.YtcnbphnnfmphlaaGreatDoor
